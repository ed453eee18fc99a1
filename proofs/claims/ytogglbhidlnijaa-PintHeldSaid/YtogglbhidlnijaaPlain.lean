/- Measures in plain numbers: heights at a tilt, levels, depths. No program. -/
import Derived.Test.YtogglbhidlnijaaMemP
namespace Go.Proofs.Ytogglbhidlnijaa
set_option linter.unusedVariables false
set_option linter.unusedSimpArgs false
set_option linter.unusedSectionVars false
set_option linter.unnecessarySimpa false

/-- A measure: its sides and its heights. -/
structure Meas where
  L : Int
  R : Int
  hs : List Int

def Meas.n (m : Meas) : Nat := m.hs.length
/-- It is valid. -/
structure Vld (m : Meas) : Prop where
  n1 : 1 ≤ m.hs.length
  n8 : m.hs.length ≤ 8
  l0 : 0 ≤ m.L
  l1 : m.L ≤ 100
  r0 : 0 ≤ m.R
  r1 : m.R ≤ 100
  h0 : ∀ i, 0 ≤ nth m.hs i
  h1 : ∀ i, nth m.hs i ≤ 100

/-- The height of a place, or of a side, at a tilt. -/
def hAt (m : Meas) (t i : Int) : Int :=
  (if i < 0 then m.L else if (m.hs.length : Int) ≤ i then m.R else nth m.hs i.toNat) + t * i

theorem mul_bd (t i : Int) (h0 : -20 ≤ t) (h1 : t ≤ 20) (h2 : -1 ≤ i) (h3 : i ≤ 8) : -160 ≤ t * i ∧ t * i ≤ 160 := by
  have : i = -1 ∨ i = 0 ∨ i = 1 ∨ i = 2 ∨ i = 3 ∨ i = 4 ∨ i = 5 ∨ i = 6 ∨ i = 7 ∨ i = 8 := by omega
  rcases this with rfl | rfl | rfl | rfl | rfl | rfl | rfl | rfl | rfl | rfl <;> omega

theorem hAt_neg {m : Meas} {t i : Int} (h : i < 0) : hAt m t i = m.L + t * i := by simp [hAt, h]
theorem hAt_end {m : Meas} {t i : Int} (h : 0 ≤ i) (h' : (m.hs.length : Int) ≤ i) : hAt m t i = m.R + t * i := by
  unfold hAt; rw [if_neg (by omega), if_pos h']
theorem hAt_mid {m : Meas} {t i : Int} (h : 0 ≤ i) (h' : i < (m.hs.length : Int)) : hAt m t i = nth m.hs i.toNat + t * i := by
  unfold hAt; rw [if_neg (by omega), if_neg (by omega)]
theorem hAt_bd {m : Meas} (v : Vld m) {t i : Int} (h0 : -20 ≤ t) (h1 : t ≤ 20) (h2 : -1 ≤ i) (h3 : i ≤ 8) : -160 ≤ hAt m t i ∧ hAt m t i ≤ 260 := by
  have := mul_bd t i h0 h1 h2 h3
  have := v.l0; have := v.l1; have := v.r0; have := v.r1; have := v.h0 i.toNat; have := v.h1 i.toNat
  unfold hAt; split
  · omega
  · split <;> omega


/-- Whether a number is a height. -/
def inH (n : Int) : Bool := decide (0 ≤ n ∧ n ≤ 100)
theorem inH_iff {n : Int} : inH n = true ↔ 0 ≤ n ∧ n ≤ 100 := by simp [inH]

/-- Of the first so many places of a row of places the one of the greatest height, of several the first. -/
def bp (h : Int → Int) (p : Nat → Int) : Nat → Int
  | 0 => p 0
  | k + 1 => if h (bp h p k) < h (p (k + 1)) then p (k + 1) else bp h p k
theorem bp_mem (h : Int → Int) (p : Nat → Int) (k : Nat) : ∃ j, j ≤ k ∧ bp h p k = p j := by
  induction k with
  | zero => exact ⟨0, Nat.le_refl _, rfl⟩
  | succ k ih =>
    obtain ⟨j, hj, e⟩ := ih
    unfold bp; split
    · exact ⟨k + 1, Nat.le_refl _, rfl⟩
    · exact ⟨j, by omega, e⟩
theorem bp_yes {h : Int → Int} {p : Nat → Int} {k : Nat} (c : h (bp h p k) < h (p (k + 1))) : bp h p (k + 1) = p (k + 1) := by
  rw [bp, if_pos c]
theorem bp_no {h : Int → Int} {p : Nat → Int} {k : Nat} (c : ¬ h (bp h p k) < h (p (k + 1))) : bp h p (k + 1) = bp h p k := by
  rw [bp, if_neg c]
theorem bp_top (h : Int → Int) (p : Nat → Int) (k j : Nat) (hj : j ≤ k) : h (p j) ≤ h (bp h p k) := by
  induction k with
  | zero => obtain rfl : j = 0 := by omega
            exact Int.le_refl _
  | succ k ih =>
    unfold bp; split
    · rename_i c
      rcases Nat.lt_or_ge k j with g | g
      · obtain rfl : j = k + 1 := by omega
        exact Int.le_refl _
      · have := ih g; omega
    · rename_i c
      rcases Nat.lt_or_ge k j with g | g
      · obtain rfl : j = k + 1 := by omega
        omega
      · exact ih g

def toL (f : Int) (k : Nat) : Int := f - k
def toR (f : Int) (k : Nat) : Int := f + k
/-- The walls of a place. -/
def wallL (m : Meas) (t f : Int) : Int := bp (hAt m t) (toL f) (f + 1).toNat
def wallR (m : Meas) (t f : Int) : Int := bp (hAt m t) (toR f) (m.hs.length - f).toNat
/-- Both heights of which the level is the lesser one. -/
def topL (m : Meas) (t f : Int) : Int := hAt m t (wallL m t f)
def topR (m : Meas) (t f : Int) : Int := hAt m t (wallR m t f)
def depth (m : Meas) (t f : Int) : Int := min (topL m t f) (topR m t f) - hAt m t f

theorem wallL_bd (m : Meas) (t f : Int) (h : 0 ≤ f) : -1 ≤ wallL m t f ∧ wallL m t f ≤ f := by
  obtain ⟨j, hj, e⟩ := bp_mem (hAt m t) (toL f) (f + 1).toNat
  unfold wallL; rw [e]; unfold toL; omega
theorem wallR_bd (m : Meas) (t f : Int) (h : f ≤ m.hs.length) : f ≤ wallR m t f ∧ wallR m t f ≤ m.hs.length := by
  obtain ⟨j, hj, e⟩ := bp_mem (hAt m t) (toR f) (m.hs.length - f).toNat
  unfold wallR; rw [e]; unfold toR; omega


theorem topL_ge (m : Meas) (t f : Int) : hAt m t f ≤ topL m t f := by
  have := bp_top (hAt m t) (toL f) (f + 1).toNat 0 (Nat.zero_le _)
  simp [toL] at this; exact this
theorem topR_ge (m : Meas) (t f : Int) : hAt m t f ≤ topR m t f := by
  have := bp_top (hAt m t) (toR f) (m.hs.length - f).toNat 0 (Nat.zero_le _)
  simp [toR] at this; exact this
theorem topL_bd {m : Meas} (v : Vld m) {t f : Int} (h0 : -20 ≤ t) (h1 : t ≤ 20) (h2 : 0 ≤ f) (h3 : f < m.hs.length) : -160 ≤ topL m t f ∧ topL m t f ≤ 260 := by
  have := wallL_bd m t f h2; have := v.n8
  exact hAt_bd v h0 h1 (by omega) (by omega)
theorem topR_bd {m : Meas} (v : Vld m) {t f : Int} (h0 : -20 ≤ t) (h1 : t ≤ 20) (h2 : 0 ≤ f) (h3 : f < m.hs.length) : -160 ≤ topR m t f ∧ topR m t f ≤ 260 := by
  have := wallR_bd m t f (by omega); have := v.n8
  exact hAt_bd v h0 h1 (by omega) (by omega)
theorem depth_bd {m : Meas} (v : Vld m) {t f : Int} (h0 : -20 ≤ t) (h1 : t ≤ 20) (h2 : 0 ≤ f) (h3 : f < m.hs.length) : 0 ≤ depth m t f ∧ depth m t f ≤ 420 := by
  have := topL_ge m t f; have := topR_ge m t f; have := topL_bd v h0 h1 h2 h3; have := topR_bd v h0 h1 h2 h3
  have := v.n8
  have := hAt_bd (i := f) v h0 h1 (by omega) (by omega)
  unfold depth; omega

def dep (m : Meas) (t : Int) (i : Nat) : Int := depth m t i
/-- What a measure holds. -/
def holds (m : Meas) (t : Int) : Int := sumTo (dep m t) m.hs.length
theorem sum_bd {m : Meas} (v : Vld m) {t : Int} (h0 : -20 ≤ t) (h1 : t ≤ 20) (k : Nat) (hk : k ≤ m.hs.length) : 0 ≤ sumTo (dep m t) k ∧ sumTo (dep m t) k ≤ 3360 := by
  have := sumTo_bd (dep m t) 420 k fun i hi => depth_bd v h0 h1 (by omega) (by omega)
  have := v.n8
  omega
theorem holds_bd {m : Meas} (v : Vld m) {t : Int} (h0 : -20 ≤ t) (h1 : t ≤ 20) : 0 ≤ holds m t ∧ holds m t ≤ 3360 := sum_bd v h0 h1 _ (Nat.le_refl _)

/-- A measure whose numbers fit 64 bits. -/
structure Fit (m : Meas) : Prop where
  l : I64 m.L
  r : I64 m.R
  h : ∀ i, I64 (nth m.hs i)

/-- The error of CheckMeasure. -/
def chk (m : Meas) : Int := if m.hs.length < 1 ∨ 8 < m.hs.length then 6 else if inH m.L = true ∧ inH m.R = true ∧ ∀ i, i < m.hs.length → inH (nth m.hs i) = true then 0 else 3
theorem chk_many {m : Meas} (h : m.hs.length < 1 ∨ 8 < m.hs.length) : chk m = 6 := by unfold chk; rw [if_pos h]
theorem chk_ok {m : Meas} : chk m = 0 ↔ Vld m := by
  unfold chk
  constructor
  · intro h
    split at h
    · simp at h
    · split at h
      · rename_i h1 h2
        simp only [inH_iff] at h2
        refine ⟨by omega, by omega, h2.1.1, h2.1.2, h2.2.1.1, h2.2.1.2, fun i => ?_, fun i => ?_⟩ <;>
        · rcases Nat.lt_or_ge i m.hs.length with g | g
          · have := h2.2.2 i g; omega
          · simp [nth, List.getElem?_eq_none g]
      · simp at h
  · intro v
    rw [if_neg (by have := v.n1; have := v.n8; omega), if_pos]
    simp only [inH_iff]
    exact ⟨⟨v.l0, v.l1⟩, ⟨v.r0, v.r1⟩, fun i _ => ⟨v.h0 i, v.h1 i⟩⟩
theorem chk_range {m : Meas} (h1 : 1 ≤ m.hs.length) (h2 : m.hs.length ≤ 8) (h : ¬ Vld m) : chk m = 3 := by
  have := mt chk_ok.1 h
  unfold chk at *
  rw [if_neg (by omega)] at *
  split
  · simp_all
  · rfl
theorem Vld.fit {m : Meas} (v : Vld m) : Fit m := by
  have := v.l0; have := v.l1; have := v.r0; have := v.r1
  refine ⟨⟨by omega, by omega⟩, ⟨by omega, by omega⟩, fun i => ?_⟩
  have := v.h0 i; have := v.h1 i
  exact ⟨by omega, by omega⟩


/-- The error of a measure and a tilt; and of a place. -/
def tlt (m : Meas) (t : Int) : Int := if chk m ≠ 0 then chk m else if t < -20 ∨ 20 < t then 3 else 0
def plc (m : Meas) (t i : Int) : Int := if tlt m t ≠ 0 then tlt m t else if i < 0 ∨ (m.hs.length : Int) ≤ i then 2 else 0
structure Tl (m : Meas) (t : Int) : Prop where
  v : Vld m
  t0 : -20 ≤ t
  t1 : t ≤ 20
theorem tlt_ok {m : Meas} {t : Int} : tlt m t = 0 ↔ Tl m t := by
  unfold tlt
  constructor
  · intro h
    split at h
    · contradiction
    · rename_i c
      split at h
      · simp at h
      · exact ⟨chk_ok.1 (by simpa using c), by omega, by omega⟩
  · intro v
    rw [if_neg (by simpa using chk_ok.2 v.v), if_neg (by have := v.t0; have := v.t1; omega)]
theorem plc_ok {m : Meas} {t i : Int} : plc m t i = 0 ↔ Tl m t ∧ 0 ≤ i ∧ i < m.hs.length := by
  unfold plc
  constructor
  · intro h
    split at h
    · contradiction
    · rename_i c
      split at h
      · simp at h
      · exact ⟨tlt_ok.1 (by simpa using c), by omega, by omega⟩
  · intro v
    rw [if_neg (by simpa using tlt_ok.2 v.1), if_neg (by omega)]
theorem chk_cases (m : Meas) : chk m = 0 ∨ chk m = 3 ∨ chk m = 6 := by unfold chk; split <;> (try split) <;> omega
theorem tlt_cases (m : Meas) (t : Int) : tlt m t = 0 ∨ tlt m t = 3 ∨ tlt m t = 6 := by
  have := chk_cases m
  unfold tlt; split <;> (try split) <;> omega
theorem plc_cases (m : Meas) (t i : Int) : plc m t i = 0 ∨ plc m t i = 2 ∨ plc m t i = 3 ∨ plc m t i = 6 := by
  have := tlt_cases m t
  unfold plc; split <;> (try split) <;> omega
theorem tlt_bad {m : Meas} {t : Int} (h : chk m ≠ 0) : tlt m t = chk m := by unfold tlt; rw [if_pos h]
theorem tlt_far {m : Meas} {t : Int} (h : chk m = 0) (h' : t < -20 ∨ 20 < t) : tlt m t = 3 := by unfold tlt; rw [if_neg (by simpa using h), if_pos h']
theorem plc_bad {m : Meas} {t i : Int} (h : tlt m t ≠ 0) : plc m t i = tlt m t := by unfold plc; rw [if_pos h]
theorem plc_far {m : Meas} {t i : Int} (h : tlt m t = 0) (h' : i < 0 ∨ (m.hs.length : Int) ≤ i) : plc m t i = 2 := by unfold plc; rw [if_neg (by simpa using h), if_pos h']

/-- The depths of all places. -/
def deps (m : Meas) (t : Int) : Nat → List Int
  | 0 => []
  | k + 1 => deps m t k ++ [dep m t k]
theorem deps_len (m : Meas) (t : Int) (k : Nat) : (deps m t k).length = k := by induction k <;> simp [deps, *]
def depths (m : Meas) (t : Int) : List Int := deps m t m.hs.length


/-- The results of Depths, Holds, Over, CheckWalls, Walls, CheckOut. -/
def depthsOf (m : Meas) (t : Int) : List Int := if tlt m t = 0 then depths m t else []
def holdsOf (m : Meas) (t : Int) : Int := if tlt m t = 0 then holds m t else 0
def sideOf (m : Meas) (t i : Int) : Int := if topL m t i < topR m t i then 1 else if topR m t i < topL m t i then 2 else 3
def overE (m : Meas) (t i : Int) : Int := if plc m t i ≠ 0 then plc m t i else if depth m t i = 0 then 5 else 0
def overOf (m : Meas) (t i : Int) : Int := if overE m t i = 0 then sideOf m t i else 0
def wallsE (m : Meas) (t i l r : Int) : Int := if plc m t i ≠ 0 then plc m t i else if l < -1 ∨ i < l ∨ r < i ∨ (m.hs.length : Int) < r then 2 else 0
def provedOf (m : Meas) (t i l r : Int) : Int := if wallsE m t i l r = 0 then min (hAt m t l) (hAt m t r) - hAt m t i else 0
def wallLOf (m : Meas) (t i : Int) : Int := if plc m t i = 0 then wallL m t i else 0
def wallROf (m : Meas) (t i : Int) : Int := if plc m t i = 0 then wallR m t i else 0
def outE (m : Meas) (t i s : Int) : Int := if plc m t i ≠ 0 then plc m t i else if s = 1 ∨ s = 2 then 0 else 2
def outOf (m : Meas) (t i s : Int) : Int := if plc m t i ≠ 0 then 0 else if s = 1 then topL m t i - hAt m t i else if s = 2 then topR m t i - hAt m t i else 0


/-- A measure with another height of a place. -/
def wth (m : Meas) (i : Nat) (h : Int) : Meas := { m with hs := m.hs.set i h }
theorem nth_set (l : List Int) (i j : Nat) (h : Int) : nth (l.set i h) j = if i = j ∧ j < l.length then h else nth l j := by
  simp only [nth, List.getD_eq_getElem?_getD, List.getElem?_set]
  by_cases e : i = j
  · subst e
    by_cases g : i < l.length <;> simp [g]
  · simp [e]
theorem wth_vld {m : Meas} (v : Vld m) (i : Nat) {h : Int} (h0 : 0 ≤ h) (h1 : h ≤ 100) : Vld (wth m i h) := by
  refine ⟨by simpa [wth] using v.n1, by simpa [wth] using v.n8, v.l0, v.l1, v.r0, v.r1, fun j => ?_, fun j => ?_⟩ <;>
  · have := v.h0 j; have := v.h1 j
    simp only [wth, nth_set]; split <;> omega


/-- What the measure holds with a place beaten out; the place by which it holds the most. -/
def out0 (m : Meas) (t : Int) (i : Nat) : Int := holds (wth m i 0) t
def bst (m : Meas) (t : Int) : Nat → Nat
  | 0 => 0
  | k + 1 => if out0 m t (bst m t k) < out0 m t k then k else bst m t k
theorem bst_lt (m : Meas) (t : Int) (k n : Nat) (h : k ≤ n) (hn : 1 ≤ n) : bst m t k < n := by
  induction k with
  | zero => exact hn
  | succ k ih => unfold bst; split <;> have := ih (by omega) <;> omega
def bestOf (m : Meas) (t : Int) : Int := if tlt m t = 0 then bst m t m.hs.length else 0
def moreOf (m : Meas) (t : Int) : Int := if tlt m t = 0 then out0 m t (bst m t m.hs.length) - holds m t else 0
theorem wth_L (m : Meas) (i : Nat) (h : Int) : (wth m i h).L = m.L := rfl
theorem wth_R (m : Meas) (i : Nat) (h : Int) : (wth m i h).R = m.R := rfl
theorem wth_len (m : Meas) (i : Nat) (h : Int) : (wth m i h).hs.length = m.hs.length := by simp [wth]
theorem out0_bd {m : Meas} (v : Vld m) {t : Int} (h0 : -20 ≤ t) (h1 : t ≤ 20) (i : Nat) : 0 ≤ out0 m t i ∧ out0 m t i ≤ 3360 :=
  holds_bd (wth_vld v i (Int.le_refl _) (by omega)) h0 h1

/-- Pools: a step for each place. -/
def lev (m : Meas) (t i : Int) : Int := depth m t i + hAt m t i
def pstep (m : Meas) (t : Int) (l : List (Int × Int)) (k : Nat) : List (Int × Int) :=
  if depth m t k = 0 then l
  else if 0 < l.length ∧ pb l (l.length - 1) = (k : Int) - 1 ∧ lev m t k = lev m t (k - 1) then l.set (l.length - 1) (pa l (l.length - 1), k)
  else l ++ [((k : Int), (k : Int))]
def pls (m : Meas) (t : Int) : Nat → List (Int × Int)
  | 0 => []
  | k + 1 => pstep m t (pls m t k) k
def poolsOf (m : Meas) (t : Int) : List (Int × Int) := if tlt m t = 0 then pls m t m.hs.length else []
theorem pa_append {l : List (Int × Int)} {i : Nat} {y : Int × Int} : pa (l ++ [y]) i = if i < l.length then pa l i else if i = l.length then y.1 else 0 := by
  simp only [pa, List.getD_eq_getElem?_getD]
  rcases Nat.lt_trichotomy i l.length with h | h | h
  · rw [if_pos h, List.getElem?_append_left h]
  · subst h; simp
  · rw [if_neg (by omega), if_neg (by omega), List.getElem?_eq_none (by simp; omega)]; rfl
theorem pb_append {l : List (Int × Int)} {i : Nat} {y : Int × Int} : pb (l ++ [y]) i = if i < l.length then pb l i else if i = l.length then y.2 else 0 := by
  simp only [pb, List.getD_eq_getElem?_getD]
  rcases Nat.lt_trichotomy i l.length with h | h | h
  · rw [if_pos h, List.getElem?_append_left h]
  · subst h; simp
  · rw [if_neg (by omega), if_neg (by omega), List.getElem?_eq_none (by simp; omega)]; rfl
theorem pa_set {l : List (Int × Int)} {i j : Nat} {y : Int × Int} (h : j < l.length) : pa (l.set j y) i = if i = j then y.1 else pa l i := by
  simp only [pa, List.getD_eq_getElem?_getD, List.getElem?_set]
  by_cases e : j = i
  · subst e; simp [h]
  · simp [e, Ne.symm e]
theorem pb_set {l : List (Int × Int)} {i j : Nat} {y : Int × Int} (h : j < l.length) : pb (l.set j y) i = if i = j then y.2 else pb l i := by
  simp only [pb, List.getD_eq_getElem?_getD, List.getElem?_set]
  by_cases e : j = i
  · subst e; simp [h]
  · simp [e, Ne.symm e]
theorem pls_bd (m : Meas) (t : Int) (k : Nat) : (pls m t k).length ≤ k ∧ ∀ j, j < (pls m t k).length → 0 ≤ pa (pls m t k) j ∧ pa (pls m t k) j ≤ pb (pls m t k) j ∧ pb (pls m t k) j < k := by
  induction k with
  | zero => exact ⟨Nat.le_refl _, fun j hj => by simp [pls] at hj⟩
  | succ k ih =>
    obtain ⟨h1, h2⟩ := ih
    simp only [pls, pstep]
    split
    · exact ⟨by omega, fun j hj => by have := h2 j hj; omega⟩
    · split
      · rename_i c
        refine ⟨by simp; omega, fun j hj => ?_⟩
        have hj' : j < (pls m t k).length := by simpa using hj
        rw [pa_set (by omega), pb_set (by omega)]
        have := h2 j hj'
        have := h2 ((pls m t k).length - 1) (by omega)
        split <;> omega
      · refine ⟨by simp; omega, fun j hj => ?_⟩
        have hj' : j < (pls m t k).length + 1 := by simpa using hj
        rw [pa_append, pb_append]
        rcases Nat.lt_or_ge j (pls m t k).length with g | g
        · rw [if_pos g, if_pos g]; have := h2 j g; omega
        · obtain rfl : j = (pls m t k).length := by omega
          simp
          omega


/-- Whether all numbers are within bounds. -/
def inR (lo hi n : Int) : Bool := decide (lo ≤ n ∧ n ≤ hi)
def allIn (lo hi : Int) (l : List Int) : Bool := l.all (inR lo hi)
theorem inR_iff {lo hi n : Int} : inR lo hi n = true ↔ lo ≤ n ∧ n ≤ hi := by simp [inR]
theorem allIn_iff {lo hi : Int} {l : List Int} : allIn lo hi l = true ↔ ∀ i, i < l.length → inR lo hi (nth l i) = true := by
  simp only [allIn, List.all_eq_true]
  constructor
  · intro h i hi'
    rw [nth_lt hi']
    exact h _ (List.getElem_mem hi')
  · intro h x hx
    obtain ⟨i, hi', rfl⟩ := List.mem_iff_getElem.1 hx
    have := h i hi'
    rwa [nth_lt hi'] at this
theorem allIn_no {lo hi : Int} {l : List Int} {i : Nat} (hi' : i < l.length) (h : inR lo hi (nth l i) = false) : allIn lo hi l = false := by
  cases e : allIn lo hi l with
  | false => rfl
  | true => have := allIn_iff.1 e i hi'; rw [h] at this; cases this
theorem allIn_one (lo hi x : Int) : allIn lo hi [x] = inR lo hi x := by simp [allIn]
theorem allIn_two (lo hi x y : Int) : allIn lo hi [x, y] = (inR lo hi x && inR lo hi y) := by simp [allIn]

/-- The greatest height so far, from the left side on; and from the right one on. -/
def tl (m : Meas) (t : Int) : Nat → Int
  | 0 => hAt m t (-1)
  | k + 1 => topL m t k
def tr (m : Meas) (t : Int) : Nat → Int
  | 0 => hAt m t m.hs.length
  | k + 1 => topR m t (m.hs.length - 1 - k)
theorem topL_of {m : Meas} {t f x : Int} (h0 : 0 ≤ f) (h1 : ∀ j, -1 ≤ j → j ≤ f → hAt m t j ≤ x) (h2 : ∃ j, -1 ≤ j ∧ j ≤ f ∧ x = hAt m t j) : topL m t f = x := by
  obtain ⟨j, j0, j1, rfl⟩ := h2
  have hw := wallL_bd m t f h0
  have a1 := h1 (wallL m t f) hw.1 hw.2
  have a2 := bp_top (hAt m t) (toL f) (f + 1).toNat (f - j).toNat (by omega)
  rw [show toL f (f - j).toNat = j by unfold toL; omega] at a2
  unfold topL wallL at *
  omega
theorem topR_of {m : Meas} {t f x : Int} (h0 : f ≤ m.hs.length) (h1 : ∀ j, f ≤ j → j ≤ m.hs.length → hAt m t j ≤ x) (h2 : ∃ j, f ≤ j ∧ j ≤ m.hs.length ∧ x = hAt m t j) : topR m t f = x := by
  obtain ⟨j, j0, j1, rfl⟩ := h2
  have hw := wallR_bd m t f h0
  have a1 := h1 (wallR m t f) hw.1 hw.2
  have a2 := bp_top (hAt m t) (toR f) (m.hs.length - f).toNat (j - f).toNat (by omega)
  rw [show toR f (j - f).toNat = j by unfold toR; omega] at a2
  unfold topR wallR at *
  omega
theorem topL_le {m : Meas} {t f j : Int} (h0 : -1 ≤ j) (h1 : j ≤ f) : hAt m t j ≤ topL m t f := by
  have a2 := bp_top (hAt m t) (toL f) (f + 1).toNat (f - j).toNat (by omega)
  rwa [show toL f (f - j).toNat = j by unfold toL; omega] at a2
theorem topR_le {m : Meas} {t f j : Int} (h0 : f ≤ j) (h1 : j ≤ m.hs.length) : hAt m t j ≤ topR m t f := by
  have a2 := bp_top (hAt m t) (toR f) (m.hs.length - f).toNat (j - f).toNat (by omega)
  rwa [show toR f (j - f).toNat = j by unfold toR; omega] at a2
theorem topL_at (m : Meas) (t f : Int) (h : 0 ≤ f) : ∃ j, -1 ≤ j ∧ j ≤ f ∧ topL m t f = hAt m t j := ⟨_, (wallL_bd m t f h).1, (wallL_bd m t f h).2, rfl⟩
theorem topR_at (m : Meas) (t f : Int) (h : f ≤ m.hs.length) : ∃ j, f ≤ j ∧ j ≤ m.hs.length ∧ topR m t f = hAt m t j := ⟨_, (wallR_bd m t f h).1, (wallR_bd m t f h).2, rfl⟩
theorem tl_succ (m : Meas) (t : Int) (k : Nat) : tl m t (k + 1) = max (tl m t k) (hAt m t k) := by
  refine topL_of (by omega) ?_ ?_
  · intro j j0 j1
    rcases Int.lt_or_eq_of_le j1 with h | h
    · have : hAt m t j ≤ tl m t k := by
        cases k with
        | zero => obtain rfl : j = -1 := by omega
                  exact Int.le_refl _
        | succ k => exact topL_le j0 (by omega)
      omega
    · subst h; omega
  · have : ∃ j, -1 ≤ j ∧ j ≤ (k : Int) ∧ tl m t k = hAt m t j := by
      cases k with
      | zero => exact ⟨-1, by omega, by omega, rfl⟩
      | succ k => obtain ⟨j, h1, h2, h3⟩ := topL_at m t k (by omega)
                  exact ⟨j, h1, by omega, h3⟩
    rcases Int.le_total (tl m t k) (hAt m t k) with h | h
    · exact ⟨k, by omega, by omega, by omega⟩
    · obtain ⟨j, j0, j1, e⟩ := this
      exact ⟨j, j0, j1, by omega⟩
theorem tr_succ (m : Meas) (t : Int) (k : Nat) (hk : k < m.hs.length) : tr m t (k + 1) = max (tr m t k) (hAt m t (m.hs.length - 1 - k)) := by
  refine topR_of (by omega) ?_ ?_
  · intro j j0 j1
    rcases Int.lt_or_eq_of_le j0 with h | h
    · have : hAt m t j ≤ tr m t k := by
        cases k with
        | zero => obtain rfl : j = m.hs.length := by omega
                  exact Int.le_refl _
        | succ k => exact topR_le (by omega) j1
      omega
    · subst h; omega
  · have : ∃ j, (m.hs.length : Int) - 1 - k ≤ j ∧ j ≤ m.hs.length ∧ tr m t k = hAt m t j := by
      cases k with
      | zero => exact ⟨m.hs.length, by omega, by omega, rfl⟩
      | succ k => obtain ⟨j, h1, h2, h3⟩ := topR_at m t (m.hs.length - 1 - k) (by omega)
                  exact ⟨j, by omega, h2, h3⟩
    rcases Int.le_total (tr m t k) (hAt m t (m.hs.length - 1 - k)) with h | h
    · exact ⟨_, Int.le_refl _, by omega, by omega⟩
    · obtain ⟨j, j0, j1, e⟩ := this
      exact ⟨j, j0, j1, by omega⟩


theorem tl_bd {m : Meas} (v : Vld m) {t : Int} (h0 : -20 ≤ t) (h1 : t ≤ 20) (k : Nat) (hk : k ≤ m.hs.length) : -160 ≤ tl m t k ∧ tl m t k ≤ 260 := by
  cases k with
  | zero => exact hAt_bd v h0 h1 (by omega) (by omega)
  | succ k => exact topL_bd v h0 h1 (by omega) (by omega)
theorem tr_bd {m : Meas} (v : Vld m) {t : Int} (h0 : -20 ≤ t) (h1 : t ≤ 20) (k : Nat) (hk : k ≤ m.hs.length) : -160 ≤ tr m t k ∧ tr m t k ≤ 260 := by
  have := v.n8
  cases k with
  | zero => exact hAt_bd v h0 h1 (by omega) (by omega)
  | succ k => exact topR_bd v h0 h1 (by omega) (by omega)


theorem deps_nth (m : Meas) (t : Int) : ∀ k j, j < k → nth (deps m t k) j = dep m t j
  | k + 1, j, h => by
    simp only [deps]
    rcases Nat.lt_or_ge j k with g | g
    · rw [nth_append_left (by rw [deps_len]; exact g)]; exact deps_nth m t k j g
    · obtain rfl : j = k := by omega
      rw [nth_append_right (by rw [deps_len]; omega), deps_len]; simp [nth]
theorem depths_len (m : Meas) (t : Int) : (depths m t).length = m.hs.length := deps_len m t _
theorem depths_nth (m : Meas) (t : Int) {j : Nat} (h : j < m.hs.length) : nth (depths m t) j = dep m t j := deps_nth m t _ j h


theorem topL_step (m : Meas) (t : Int) (k : Nat) : topL m t ((k : Int) + 1) = max (topL m t k) (hAt m t ((k : Int) + 1)) := by
  have := tl_succ m t (k + 1)
  simpa [tl] using this
theorem topR_step (m : Meas) (t f : Int) (h : f < m.hs.length) : topR m t f = max (topR m t (f + 1)) (hAt m t f) := by
  refine topR_of (by omega) ?_ ?_
  · intro j j0 j1
    rcases Int.lt_or_eq_of_le j0 with h' | h'
    · have := topR_le (m := m) (t := t) (f := f + 1) (j := j) (by omega) j1
      omega
    · subst h'; omega
  · obtain ⟨j, j0, j1, e⟩ := topR_at m t (f + 1) (by omega)
    rcases Int.le_total (topR m t (f + 1)) (hAt m t f) with h' | h'
    · exact ⟨f, Int.le_refl _, by omega, by omega⟩
    · exact ⟨j, by omega, j1, by omega⟩
/-- Two places that follow one another and are not dry have one level, and run over the same sides. -/
theorem wet_same {m : Meas} {t : Int} {k : Nat} (hk : k + 1 < m.hs.length) (h0 : 0 < depth m t k) (h1 : 0 < depth m t ((k : Int) + 1)) :
    topL m t ((k : Int) + 1) = topL m t k ∧ topR m t ((k : Int) + 1) = topR m t k := by
  have e1 := topL_step m t k
  have e2 := topR_step m t k (by omega)
  unfold depth at h0 h1
  omega
theorem wet_lev {m : Meas} {t : Int} {k : Nat} (hk : k + 1 < m.hs.length) (h0 : 0 < depth m t k) (h1 : 0 < depth m t ((k : Int) + 1)) : lev m t ((k : Int) + 1) = lev m t k := by
  obtain ⟨a, b⟩ := wet_same hk h0 h1
  unfold lev depth
  rw [a, b]; omega
/-- Where the last pool ends. -/
theorem pls_last (m : Meas) (t : Int) : ∀ k, (0 < (pls m t k).length ∧ pb (pls m t k) ((pls m t k).length - 1) = (k : Int) - 1) ↔ (0 < k ∧ depth m t ((k : Int) - 1) ≠ 0)
  | 0 => by simp [pls]
  | k + 1 => by
    have hb := pls_bd m t k
    rw [show (((k + 1 : Nat) : Int) - 1) = (k : Int) by omega]
    simp only [pls, pstep]
    split
    · rename_i d
      constructor
      · rintro ⟨h1, h2⟩
        have := (hb.2 _ (show (pls m t k).length - 1 < _ by omega)).2.2
        omega
      · rintro ⟨_, h⟩; exact absurd d h
    · rename_i d
      split
      · rename_i c
        constructor
        · intro _; exact ⟨by omega, d⟩
        · intro _
          rw [List.length_set, pb_set (by omega), if_pos rfl]
          exact ⟨c.1, rfl⟩
      · constructor
        · intro _; exact ⟨by omega, d⟩
        · intro _
          rw [List.length_append, List.length_singleton, Nat.add_sub_cancel, pb_append, if_neg (by omega), if_pos rfl]
          exact ⟨by omega, rfl⟩
theorem pstep_yes {m : Meas} {t : Int} {k : Nat} (hk : k < m.hs.length) (h : 0 < k ∧ 0 < depth m t ((k : Int) - 1)) (h1 : 0 < depth m t k) :
    0 < (pls m t k).length ∧ pls m t (k + 1) = (pls m t k).set ((pls m t k).length - 1) (pa (pls m t k) ((pls m t k).length - 1), (k : Int)) := by
  obtain ⟨l1, l2⟩ := (pls_last m t k).2 ⟨h.1, by omega⟩
  refine ⟨l1, ?_⟩
  obtain ⟨j, rfl⟩ : ∃ j, k = j + 1 := ⟨k - 1, by omega⟩
  have e : (((j + 1 : Nat) : Int) - 1) = (j : Int) := by omega
  have e2 : ((j + 1 : Nat) : Int) = (j : Int) + 1 := by omega
  rw [e] at h l2
  have hl := wet_lev hk h.2 (by rw [← e2]; exact h1)
  show pstep m t _ _ = _
  unfold pstep
  rw [if_neg (by omega), if_pos ⟨l1, by rw [l2]; omega, by rw [e, e2]; exact hl⟩]
theorem pstep_no {m : Meas} {t : Int} {k : Nat} (h : ¬ (0 < k ∧ 0 < depth m t ((k : Int) - 1))) (h0 : ∀ j : Nat, 0 ≤ depth m t j ∨ ¬ j < k) (h1 : depth m t k ≠ 0) :
    pls m t (k + 1) = pls m t k ++ [((k : Int), (k : Int))] := by
  show pstep m t _ _ = _
  unfold pstep
  rw [if_neg h1, if_neg]
  rintro ⟨c1, c2, _⟩
  obtain ⟨l1, l2⟩ := (pls_last m t k).1 ⟨c1, c2⟩
  have := h0 (k - 1)
  rw [show ((k - 1 : Nat) : Int) = (k : Int) - 1 by omega] at this
  omega

end Go.Proofs.Ytogglbhidlnijaa
