/- Plain laws for the law PintSides: one place, or a side, is higher. No program. -/
import Derived.Test.YtogglbhidlnijaaPlainC
namespace Go.Proofs.Ytogglbhidlnijaa
set_option linter.unusedVariables false
set_option linter.unusedSimpArgs false
set_option linter.unusedSectionVars false
set_option linter.unnecessarySimpa false

theorem hi_mk {m x : Meas} {i : Int} (v : Vld m) (len : x.hs.length = m.hs.length) (vx : Vld x) (hi : -1 ≤ i) (hn : i ≤ m.hs.length)
    (hL : m.L ≤ x.L) (hL' : i ≠ -1 → x.L = m.L) (hR : m.R ≤ x.R) (hR' : i ≠ m.hs.length → x.R = m.R) (hh : ∀ k, nth m.hs k ≤ nth x.hs k) (hh' : ∀ k : Nat, (k : Int) ≠ i → nth x.hs k = nth m.hs k) (hl : i = -1 → True) :
    ∀ t j : Int, -1 ≤ j → j ≤ m.hs.length → hAt m t j ≤ hAt x t j ∧ (j ≠ i → hAt x t j = hAt m t j) := by
  intro t j h0 h1
  by_cases g1 : j < 0
  · rw [hAt_neg g1, hAt_neg g1]
    exact ⟨by omega, fun h => by rw [hL' (by omega)]⟩
  · by_cases g2 : (m.hs.length : Int) ≤ j
    · rw [hAt_end (m := m) (by omega) g2, hAt_end (m := x) (by omega) (by rw [len]; exact g2)]
      exact ⟨by omega, fun h => by rw [hR' (by omega)]⟩
    · rw [hAt_mid (m := m) (by omega) (by omega), hAt_mid (m := x) (by omega) (by rw [len]; omega)]
      have := hh j.toNat
      exact ⟨by omega, fun h => by rw [hh' j.toNat (by omega)]⟩

/-- x is m with place or side i higher: what is asked of its heights. -/
structure Hi (m x : Meas) (i : Int) : Prop where
  len : x.hs.length = m.hs.length
  v : Vld x
  up : ∀ t j : Int, -1 ≤ j → j ≤ m.hs.length → hAt m t j ≤ hAt x t j ∧ (j ≠ i → hAt x t j = hAt m t j)
theorem hi_left {m : Meas} (v : Vld m) {d : Int} (h0 : 0 ≤ d) : Hi m ⟨min 100 (m.L + d), m.R, m.hs⟩ (-1) := by
  have vx : Vld ⟨min 100 (m.L + d), m.R, m.hs⟩ := ⟨v.n1, v.n8, by have := v.l0; show 0 ≤ min 100 (m.L + d); omega, by show min 100 (m.L + d) ≤ 100; omega, v.r0, v.r1, v.h0, v.h1⟩
  refine ⟨rfl, vx, hi_mk v rfl vx (by omega) (by omega) ?_ (fun h => absurd rfl h) (Int.le_refl _) (fun _ => rfl) (fun _ => Int.le_refl _) (fun _ _ => rfl) (fun _ => trivial)⟩
  have := v.l1; show m.L ≤ min 100 (m.L + d); omega
theorem hi_right {m : Meas} (v : Vld m) {d : Int} (h0 : 0 ≤ d) : Hi m ⟨m.L, min 100 (m.R + d), m.hs⟩ m.hs.length := by
  have vx : Vld ⟨m.L, min 100 (m.R + d), m.hs⟩ := ⟨v.n1, v.n8, v.l0, v.l1, by have := v.r0; show 0 ≤ min 100 (m.R + d); omega, by show min 100 (m.R + d) ≤ 100; omega, v.h0, v.h1⟩
  refine ⟨rfl, vx, hi_mk v rfl vx (by omega) (by omega) (Int.le_refl _) (fun _ => rfl) ?_ (fun h => absurd rfl h) (fun _ => Int.le_refl _) (fun _ _ => rfl) (fun _ => trivial)⟩
  have := v.r1; show m.R ≤ min 100 (m.R + d); omega
theorem hi_place {m : Meas} (v : Vld m) {d : Int} (h0 : 0 ≤ d) {k : Nat} (hk : k < m.hs.length) : Hi m (wth m k (min 100 (nth m.hs k + d))) k := by
  have a := v.h0 k; have b := v.h1 k
  have vx := wth_vld v k (h := min 100 (nth m.hs k + d)) (by omega) (by omega)
  refine ⟨wth_len _ _ _, vx, hi_mk v (wth_len _ _ _) vx (by omega) (by omega) (Int.le_refl _) (fun _ => rfl) (Int.le_refl _) (fun _ => rfl) (fun j => ?_) (fun j hj => ?_) (fun _ => trivial)⟩
  · simp only [wth, nth_set]
    split
    · rename_i h; rw [← h.1]; omega
    · exact Int.le_refl _
  · simp only [wth, nth_set]
    rw [if_neg (by omega)]

theorem Hi.tops {m x : Meas} {i t k : Int} (h : Hi m x i) (k0 : 0 ≤ k) (k1 : k < m.hs.length) : topL m t k ≤ topL x t k ∧ topR m t k ≤ topR x t k :=
  ⟨topL_mono k0 fun j h0 h1 => (h.up t j h0 (by omega)).1, topR_mono h.len (by omega) fun j h0 h1 => (h.up t j (by omega) h1).1⟩
theorem Hi.other {m x : Meas} {i t k : Int} (h : Hi m x i) (k0 : 0 ≤ k) (k1 : k < m.hs.length) (hk : k ≠ i) : depth m t k ≤ depth x t k := by
  obtain ⟨a, b⟩ := h.tops (t := t) k0 k1
  have := (h.up t k (by omega) (by omega)).2 hk
  unfold depth; omega
theorem Hi.own {m x : Meas} {i t : Int} (h : Hi m x i) (k0 : 0 ≤ i) (k1 : i < m.hs.length) : depth x t i ≤ depth m t i := by
  have u := (h.up t i (by omega) (by omega)).1
  have near : ∀ j : Int, -1 ≤ j → j ≤ m.hs.length → hAt x t j ≤ hAt m t j + (hAt x t i - hAt m t i) := by
    intro j h0 h1
    by_cases e : j = i
    · subst e; omega
    · have := (h.up t j h0 h1).2 e; omega
  have a := topL_near (m := m) (x := x) (t := t) (i := i) (d := hAt x t i - hAt m t i) k0 fun j h0 h1 => near j h0 (by omega)
  have b := topR_near (m := m) (x := x) (t := t) (i := i) (d := hAt x t i - hAt m t i) h.len (by omega) fun j h0 h1 => near j (by omega) h1
  unfold depth; omega
theorem Hi.level {m x : Meas} {i t : Int} (h : Hi m x i) {k : Nat} (k1 : k < m.hs.length) : dep m t k + nth m.hs k ≤ dep x t k + nth x.hs k := by
  obtain ⟨a, b⟩ := h.tops (t := t) (k := k) (by omega) (by omega)
  have e1 : hAt m t k = nth m.hs k + t * k := by have := hAt_mid (m := m) (t := t) (i := (k : Int)) (by omega) (by omega); simpa using this
  have e2 : hAt x t k = nth x.hs k + t * k := by have := hAt_mid (m := x) (t := t) (i := (k : Int)) (by omega) (by rw [h.len]; omega); simpa using this
  unfold dep depth
  omega

end Go.Proofs.Ytogglbhidlnijaa
