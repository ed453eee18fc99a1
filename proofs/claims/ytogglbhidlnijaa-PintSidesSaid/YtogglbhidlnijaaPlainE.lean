/- Plain laws for the laws PintTurned, PintGrown, PintSides. No program. -/
import Derived.Test.YtogglbhidlnijaaPlainC
namespace Go.Proofs.Ytogglbhidlnijaa
set_option linter.unusedVariables false
set_option linter.unusedSimpArgs false
set_option linter.unusedSectionVars false
set_option linter.unnecessarySimpa false

/-- The first k numbers, the last one first. -/
def rvs (l : List Int) : Nat → List Int
  | 0 => []
  | k + 1 => rvs l k ++ [nth l (l.length - 1 - k)]
theorem rvs_len (l : List Int) (k : Nat) : (rvs l k).length = k := by induction k <;> simp [rvs, *]
theorem rvs_nth (l : List Int) : ∀ k j, j < k → nth (rvs l k) j = nth l (l.length - 1 - j)
  | k + 1, j, h => by
    simp only [rvs]
    rcases Nat.lt_or_ge j k with g | g
    · rw [nth_append_left (by rw [rvs_len]; exact g)]; exact rvs_nth l k j g
    · obtain rfl : j = k := by omega
      rw [nth_append_right (by rw [rvs_len]; omega), rvs_len]; simp [nth]
theorem rvs_all (l : List Int) : rvs l l.length = l.reverse :=
  nth_ext (by rw [rvs_len]; simp) fun i hi => by rw [rvs_len] at hi; rw [rvs_nth _ _ _ hi, nth_rev _ _ hi]

/-- The first k numbers, each by a function. -/
def maps (f : Int → Int) (l : List Int) : Nat → List Int
  | 0 => []
  | k + 1 => maps f l k ++ [f (nth l k)]
theorem maps_len (f : Int → Int) (l : List Int) (k : Nat) : (maps f l k).length = k := by induction k <;> simp [maps, *]
theorem maps_nth (f : Int → Int) (l : List Int) : ∀ k j, j < k → nth (maps f l k) j = f (nth l j)
  | k + 1, j, h => by
    simp only [maps]
    rcases Nat.lt_or_ge j k with g | g
    · rw [nth_append_left (by rw [maps_len]; exact g)]; exact maps_nth f l k j g
    · obtain rfl : j = k := by omega
      rw [nth_append_right (by rw [maps_len]; omega), maps_len]; simp [nth]
theorem maps_all (f : Int → Int) (l : List Int) : maps f l l.length = l.map f :=
  nth_ext (by rw [maps_len]; simp) fun i hi => by rw [maps_len] at hi; rw [maps_nth _ _ _ _ hi, nth_map _ _ _ hi]

/-- Seen from behind a place runs over the other side. -/
theorem rv_over {m : Meas} (v : Vld m) {t : Int} (h0 : -20 ≤ t) (h1 : t ≤ 20) {i : Int} (i0 : 0 ≤ i) (i1 : i < m.hs.length) :
    overE (rv m) (-t) ((m.hs.length : Int) - 1 - i) = overE m t i ∧ (overE m t i = 5 ∨ overE m t i = 0) ∧
    ((overOf m t i = 0 ∧ overOf (rv m) (-t) ((m.hs.length : Int) - 1 - i) = 0) ∨ (overOf m t i = 1 ∧ overOf (rv m) (-t) ((m.hs.length : Int) - 1 - i) = 2) ∨
     (overOf m t i = 2 ∧ overOf (rv m) (-t) ((m.hs.length : Int) - 1 - i) = 1) ∨ (overOf m t i = 3 ∧ overOf (rv m) (-t) ((m.hs.length : Int) - 1 - i) = 3)) := by
  have p1 : plc m t i = 0 := plc_ok.2 ⟨⟨v, h0, h1⟩, i0, i1⟩
  have p2 : plc (rv m) (-t) ((m.hs.length : Int) - 1 - i) = 0 := plc_ok.2 ⟨⟨rv_vld v, by omega, by omega⟩, by omega, by rw [rv_len]; omega⟩
  have e1 : overE m t i = if depth m t i = 0 then 5 else 0 := by unfold overE; rw [if_neg (by simp [p1])]
  have e2 : overE (rv m) (-t) ((m.hs.length : Int) - 1 - i) = if depth m t i = 0 then 5 else 0 := by unfold overE; rw [if_neg (by simp [p2]), rv_depth m t i i0 i1]
  refine ⟨by rw [e1, e2], by rw [e1]; split <;> simp, ?_⟩
  unfold overOf
  rw [e1, e2]
  by_cases c : depth m t i = 0
  · simp [c]
  · rw [if_neg c]
    simp only [if_true]
    unfold sideOf
    rw [rv_topL m t i i0 i1, rv_topR m t i i0 i1]
    rcases Int.lt_trichotomy (topL m t i) (topR m t i) with g | g | g
    · right; left
      rw [if_pos g, if_neg (by omega), if_pos (by omega)]; exact ⟨rfl, rfl⟩
    · right; right; right
      rw [if_neg (by omega), if_neg (by omega), if_neg (by omega), if_neg (by omega)]; exact ⟨rfl, rfl⟩
    · right; right; left
      rw [if_neg (by omega), if_pos g, if_pos (by omega)]; exact ⟨rfl, rfl⟩

theorem up_fit {m : Meas} (v : Vld m) {d : Int} (h0 : 0 ≤ d) (h1 : d ≤ 255) : Fit (up m d) := by
  have := v.l0; have := v.l1; have := v.r0; have := v.r1
  refine ⟨⟨by show _ ≤ m.L + d; omega, by show m.L + d ≤ _; omega⟩, ⟨by show _ ≤ m.R + d; omega, by show m.R + d ≤ _; omega⟩, fun i => ?_⟩
  by_cases g : i < m.hs.length
  · have e : nth (up m d).hs i = nth m.hs i + d := nth_map _ _ _ g
    have := v.h0 i; have := v.h1 i
    rw [e]; exact ⟨by omega, by omega⟩
  · have : nth (up m d).hs i = 0 := by
      have : (up m d).hs[i]? = none := List.getElem?_eq_none (by rw [up_len]; omega)
      simp [nth, this]
    rw [this]; exact ⟨by omega, by omega⟩
theorem mul3_bd {x c : Int} (h0 : 0 ≤ x) (h1 : x ≤ 100) (c0 : 1 ≤ c) (c1 : c ≤ 3) : 0 ≤ c * x ∧ c * x ≤ 300 := by
  have : c = 1 ∨ c = 2 ∨ c = 3 := by omega
  rcases this with rfl | rfl | rfl <;> omega
theorem tm_fit {m : Meas} (v : Vld m) {c : Int} (c0 : 1 ≤ c) (c1 : c ≤ 3) : Fit (tm m c) := by
  have a := mul3_bd v.l0 v.l1 c0 c1
  have b := mul3_bd v.r0 v.r1 c0 c1
  refine ⟨⟨by show _ ≤ c * m.L; omega, by show c * m.L ≤ _; omega⟩, ⟨by show _ ≤ c * m.R; omega, by show c * m.R ≤ _; omega⟩, fun i => ?_⟩
  by_cases g : i < m.hs.length
  · have e : nth (tm m c).hs i = c * nth m.hs i := nth_map _ _ _ g
    have := mul3_bd (v.h0 i) (v.h1 i) c0 c1
    rw [e]; exact ⟨by omega, by omega⟩
  · have : nth (tm m c).hs i = 0 := by
      have : (tm m c).hs[i]? = none := List.getElem?_eq_none (by rw [tm_len]; omega)
      simp [nth, this]
    rw [this]; exact ⟨by omega, by omega⟩
theorem up_depths (m : Meas) (t d : Int) : depths (up m d) t = depths m t := by
  refine nth_ext (by rw [depths_len, depths_len, up_len]) fun i hi => ?_
  rw [depths_len, up_len] at hi
  rw [depths_nth _ _ (by rw [up_len]; exact hi), depths_nth _ _ hi]
  exact up_depth m t d i (by omega) (by omega)
theorem tm_dep (m : Meas) (t c : Int) (hc : 0 ≤ c) (i : Nat) (h : i < m.hs.length) : nth (depths (tm m c) (c * t)) i = c * dep m t i := by
  rw [depths_nth _ _ (by rw [tm_len]; exact h)]
  exact tm_depth m t c i hc (by omega) (by omega)

end Go.Proofs.Ytogglbhidlnijaa
