/- Plain laws of levels and depths: turned, grown, with higher sides. No program. -/
import Derived.Test.YtogglbhidlnijaaPlain
namespace Go.Proofs.Ytogglbhidlnijaa
set_option linter.unusedVariables false
set_option linter.unusedSimpArgs false
set_option linter.unusedSectionVars false
set_option linter.unnecessarySimpa false

theorem topL_max {m : Meas} {t f j : Int} (h : 0 ≤ f) (h1 : -1 ≤ j) (h2 : j ≤ f) : hAt m t j ≤ topL m t f := by
  have := bp_top (hAt m t) (toL f) (f + 1).toNat (f - j).toNat (by omega)
  have e : toL f (f - j).toNat = j := by unfold toL; omega
  rw [e] at this
  exact this
theorem topR_max {m : Meas} {t f j : Int} (h1 : f ≤ j) (h2 : j ≤ m.hs.length) : hAt m t j ≤ topR m t f := by
  have := bp_top (hAt m t) (toR f) (m.hs.length - f).toNat (j - f).toNat (by omega)
  have e : toR f (j - f).toNat = j := by unfold toR; omega
  rw [e] at this
  exact this
theorem topL_in (m : Meas) (t : Int) {f : Int} (h : 0 ≤ f) : ∃ j, -1 ≤ j ∧ j ≤ f ∧ topL m t f = hAt m t j :=
  ⟨_, (wallL_bd m t f h).1, (wallL_bd m t f h).2, rfl⟩
theorem topR_in (m : Meas) (t : Int) {f : Int} (h : f ≤ m.hs.length) : ∃ j, f ≤ j ∧ j ≤ m.hs.length ∧ topR m t f = hAt m t j :=
  ⟨_, (wallR_bd m t f h).1, (wallR_bd m t f h).2, rfl⟩
theorem topL_lub {m : Meas} {t f c : Int} (h : 0 ≤ f) (hc : ∀ j, -1 ≤ j → j ≤ f → hAt m t j ≤ c) : topL m t f ≤ c := by
  obtain ⟨j, h1, h2, e⟩ := topL_in m t h
  rw [e]; exact hc j h1 h2
theorem topR_lub {m : Meas} {t f c : Int} (h : f ≤ m.hs.length) (hc : ∀ j, f ≤ j → j ≤ m.hs.length → hAt m t j ≤ c) : topR m t f ≤ c := by
  obtain ⟨j, h1, h2, e⟩ := topR_in m t h
  rw [e]; exact hc j h1 h2

/-- Two walls prove no more than the depth. -/
theorem proved_le {m : Meas} {t i l r : Int} (h0 : 0 ≤ i) (h1 : -1 ≤ l) (h2 : l ≤ i) (h3 : i ≤ r) (h4 : r ≤ m.hs.length) : min (hAt m t l) (hAt m t r) - hAt m t i ≤ depth m t i := by
  have := topL_max (m := m) (t := t) h0 h1 h2
  have := topR_max (m := m) (t := t) h3 h4
  unfold depth; omega

/-- A measure seen from behind. -/
def rv (m : Meas) : Meas := ⟨m.R, m.L, m.hs.reverse⟩
theorem rv_len (m : Meas) : (rv m).hs.length = m.hs.length := by simp [rv]
theorem rv_rv (m : Meas) : rv (rv m) = m := by simp [rv]
theorem nth_rev (l : List Int) (i : Nat) (h : i < l.length) : nth l.reverse i = nth l (l.length - 1 - i) := by
  simp only [nth, List.getD_eq_getElem?_getD]
  rw [List.getElem?_reverse h]
theorem rv_vld {m : Meas} (v : Vld m) : Vld (rv m) := by
  refine ⟨by rw [rv_len]; exact v.n1, by rw [rv_len]; exact v.n8, v.r0, v.r1, v.l0, v.l1, fun i => ?_, fun i => ?_⟩ <;>
  · show _ ≤ _
    by_cases g : i < m.hs.length
    · have e : nth (rv m).hs i = nth m.hs (m.hs.length - 1 - i) := nth_rev _ _ g
      rw [e]; first | exact v.h0 _ | exact v.h1 _
    · have e : nth (rv m).hs i = 0 := by
        have : (rv m).hs[i]? = none := List.getElem?_eq_none (by rw [rv_len]; omega)
        simp [nth, this]
      rw [e]; omega
theorem rv_hAt (m : Meas) (t i : Int) (h0 : -1 ≤ i) (h1 : i ≤ m.hs.length) (hn : 1 ≤ m.hs.length) :
    hAt (rv m) (-t) ((m.hs.length : Int) - 1 - i) = hAt m t i - t * ((m.hs.length : Int) - 1) := by
  have e : -t * ((m.hs.length : Int) - 1 - i) = t * i - t * ((m.hs.length : Int) - 1) := by
    rw [Int.mul_sub, Int.neg_mul, Int.neg_mul]; omega
  by_cases g1 : i < 0
  · rw [hAt_neg g1, hAt_end (by omega) (by rw [rv_len]; omega), e]; show m.L + _ = _; omega
  · by_cases g2 : (m.hs.length : Int) ≤ i
    · rw [hAt_end (by omega) g2, hAt_neg (by omega), e]; show m.R + _ = _; omega
    · rw [hAt_mid (m := m) (by omega) (by omega), hAt_mid (m := rv m) (by omega) (by rw [rv_len]; omega), e]
      have : nth (rv m).hs ((m.hs.length : Int) - 1 - i).toNat = nth m.hs i.toNat := by
        show nth m.hs.reverse _ = _
        rw [nth_rev _ _ (by omega)]
        congr 1; omega
      rw [this]; omega
theorem rv_topL (m : Meas) (t i : Int) (h0 : 0 ≤ i) (h1 : i < m.hs.length) :
    topL (rv m) (-t) ((m.hs.length : Int) - 1 - i) = topR m t i - t * ((m.hs.length : Int) - 1) := by
  refine Int.le_antisymm (topL_lub (by omega) fun j h2 h3 => ?_) ?_
  · have e := rv_hAt m t ((m.hs.length : Int) - 1 - j) (by omega) (by omega) (by omega)
    have e2 : (m.hs.length : Int) - 1 - ((m.hs.length : Int) - 1 - j) = j := by omega
    rw [e2] at e
    rw [e]
    have := topR_max (m := m) (t := t) (f := i) (j := (m.hs.length : Int) - 1 - j) (by omega) (by omega)
    omega
  · obtain ⟨j, h2, h3, e⟩ := topR_in m t (f := i) (by omega)
    rw [e, ← rv_hAt m t j (by omega) (by omega) (by omega)]
    exact topL_max (by omega) (by omega) (by omega)
theorem rv_topR (m : Meas) (t i : Int) (h0 : 0 ≤ i) (h1 : i < m.hs.length) :
    topR (rv m) (-t) ((m.hs.length : Int) - 1 - i) = topL m t i - t * ((m.hs.length : Int) - 1) := by
  refine Int.le_antisymm (topR_lub (by rw [rv_len]; omega) fun j h2 h3 => ?_) ?_
  · rw [rv_len] at h3
    have e := rv_hAt m t ((m.hs.length : Int) - 1 - j) (by omega) (by omega) (by omega)
    have e2 : (m.hs.length : Int) - 1 - ((m.hs.length : Int) - 1 - j) = j := by omega
    rw [e2] at e
    rw [e]
    have := topL_max (m := m) (t := t) (f := i) (j := (m.hs.length : Int) - 1 - j) (by omega) (by omega) (by omega)
    omega
  · obtain ⟨j, h2, h3, e⟩ := topL_in m t (f := i) (by omega)
    rw [e, ← rv_hAt m t j (by omega) (by omega) (by omega)]
    exact topR_max (by omega) (by rw [rv_len]; omega)
theorem rv_depth (m : Meas) (t i : Int) (h0 : 0 ≤ i) (h1 : i < m.hs.length) : depth (rv m) (-t) ((m.hs.length : Int) - 1 - i) = depth m t i := by
  unfold depth
  rw [rv_topL m t i h0 h1, rv_topR m t i h0 h1, rv_hAt m t i (by omega) (by omega) (by omega)]
  omega

/-- All heights and sides greater by as much. -/
def up (m : Meas) (d : Int) : Meas := ⟨m.L + d, m.R + d, m.hs.map (· + d)⟩
theorem up_len (m : Meas) (d : Int) : (up m d).hs.length = m.hs.length := by simp [up]
theorem nth_map (l : List Int) (f : Int → Int) (i : Nat) (h : i < l.length) : nth (l.map f) i = f (nth l i) := by
  simp [nth, h]
theorem up_hAt (m : Meas) (t d i : Int) : hAt (up m d) t i = hAt m t i + d := by
  by_cases g1 : i < 0
  · rw [hAt_neg g1, hAt_neg g1]; show m.L + d + _ = _; omega
  · by_cases g2 : (m.hs.length : Int) ≤ i
    · rw [hAt_end (m := m) (by omega) g2, hAt_end (m := up m d) (by omega) (by rw [up_len]; omega)]; show m.R + d + _ = _; omega
    · rw [hAt_mid (m := m) (by omega) (by omega), hAt_mid (m := up m d) (by omega) (by rw [up_len]; omega)]
      have : nth (up m d).hs i.toNat = nth m.hs i.toNat + d := nth_map _ _ _ (by omega)
      rw [this]; omega
theorem up_depth (m : Meas) (t d i : Int) (h0 : 0 ≤ i) (h1 : i < m.hs.length) : depth (up m d) t i = depth m t i := by
  have a : topL (up m d) t i = topL m t i + d := by
    refine Int.le_antisymm (topL_lub h0 fun j h2 h3 => ?_) ?_
    · rw [up_hAt]; have := topL_max (m := m) (t := t) h0 h2 h3; omega
    · obtain ⟨j, h2, h3, e⟩ := topL_in m t h0
      rw [e, ← up_hAt]; exact topL_max h0 h2 h3
  have b : topR (up m d) t i = topR m t i + d := by
    refine Int.le_antisymm (topR_lub (by rw [up_len]; omega) fun j h2 h3 => ?_) ?_
    · rw [up_len] at h3; rw [up_hAt]; have := topR_max (m := m) (t := t) h2 h3; omega
    · obtain ⟨j, h2, h3, e⟩ := topR_in m t (f := i) (by omega)
      rw [e, ← up_hAt]; exact topR_max h2 (by rw [up_len]; omega)
  unfold depth; rw [a, b, up_hAt]; omega

/-- All as many times as great. -/
def tm (m : Meas) (c : Int) : Meas := ⟨c * m.L, c * m.R, m.hs.map (c * ·)⟩
theorem tm_len (m : Meas) (c : Int) : (tm m c).hs.length = m.hs.length := by simp [tm]
theorem tm_hAt (m : Meas) (t c i : Int) : hAt (tm m c) (c * t) i = c * hAt m t i := by
  by_cases g1 : i < 0
  · rw [hAt_neg g1, hAt_neg g1, Int.mul_add, Int.mul_assoc]; rfl
  · by_cases g2 : (m.hs.length : Int) ≤ i
    · rw [hAt_end (m := m) (by omega) g2, hAt_end (m := tm m c) (by omega) (by rw [tm_len]; omega), Int.mul_add, Int.mul_assoc]; rfl
    · rw [hAt_mid (m := m) (by omega) (by omega), hAt_mid (m := tm m c) (by omega) (by rw [tm_len]; omega), Int.mul_add, Int.mul_assoc]
      have : nth (tm m c).hs i.toNat = c * nth m.hs i.toNat := nth_map _ _ _ (by omega)
      rw [this]
theorem tm_depth (m : Meas) (t c i : Int) (hc : 0 ≤ c) (h0 : 0 ≤ i) (h1 : i < m.hs.length) : depth (tm m c) (c * t) i = c * depth m t i := by
  have a : topL (tm m c) (c * t) i = c * topL m t i := by
    refine Int.le_antisymm (topL_lub h0 fun j h2 h3 => ?_) ?_
    · rw [tm_hAt]; exact Int.mul_le_mul_of_nonneg_left (topL_max h0 h2 h3) hc
    · obtain ⟨j, h2, h3, e⟩ := topL_in m t h0
      rw [e, ← tm_hAt]; exact topL_max h0 h2 h3
  have b : topR (tm m c) (c * t) i = c * topR m t i := by
    refine Int.le_antisymm (topR_lub (by rw [tm_len]; omega) fun j h2 h3 => ?_) ?_
    · rw [tm_len] at h3; rw [tm_hAt]; exact Int.mul_le_mul_of_nonneg_left (topR_max h2 h3) hc
    · obtain ⟨j, h2, h3, e⟩ := topR_in m t (f := i) (by omega)
      rw [e, ← tm_hAt]; exact topR_max h2 (by rw [tm_len]; omega)
  unfold depth; rw [a, b, tm_hAt, Int.mul_sub]
  rcases Int.le_total (topL m t i) (topR m t i) with h | h
  · rw [Int.min_eq_left h, Int.min_eq_left (Int.mul_le_mul_of_nonneg_left h hc)]
  · rw [Int.min_eq_right h, Int.min_eq_right (Int.mul_le_mul_of_nonneg_left h hc)]

/-- With heights nowhere less tops are nowhere less. -/
theorem topL_mono {m x : Meas} {t i : Int} (h0 : 0 ≤ i) (h : ∀ j, -1 ≤ j → j ≤ i → hAt m t j ≤ hAt x t j) : topL m t i ≤ topL x t i :=
  topL_lub h0 fun j h2 h3 => Int.le_trans (h j h2 h3) (topL_max h0 h2 h3)
theorem topR_mono {m x : Meas} {t i : Int} (hl : x.hs.length = m.hs.length) (h1 : i ≤ m.hs.length) (h : ∀ j, i ≤ j → j ≤ m.hs.length → hAt m t j ≤ hAt x t j) : topR m t i ≤ topR x t i :=
  topR_lub h1 fun j h2 h3 => Int.le_trans (h j h2 h3) (topR_max h2 (by rw [hl]; exact h3))
/-- If only one place is higher, by d, tops of others do not sink, and its own rise by no more than d. -/
theorem topL_near {m x : Meas} {t i d : Int} (h0 : 0 ≤ i) (h : ∀ j, -1 ≤ j → j ≤ i → hAt x t j ≤ hAt m t j + d) : topL x t i ≤ topL m t i + d :=
  topL_lub h0 fun j h2 h3 => by have := h j h2 h3; have := topL_max (m := m) (t := t) h0 h2 h3; omega
theorem topR_near {m x : Meas} {t i d : Int} (hl : x.hs.length = m.hs.length) (h1 : i ≤ m.hs.length) (h : ∀ j, i ≤ j → j ≤ m.hs.length → hAt x t j ≤ hAt m t j + d) : topR x t i ≤ topR m t i + d :=
  topR_lub (by rw [hl]; exact h1) fun j h2 h3 => by rw [hl] at h3; have := h j h2 h3; have := topR_max (m := m) (t := t) h2 h3; omega

end Go.Proofs.Ytogglbhidlnijaa
