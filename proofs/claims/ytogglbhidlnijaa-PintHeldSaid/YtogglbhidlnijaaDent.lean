/- Dented measures in plain numbers. No program. -/
import Derived.Test.YtogglbhidlnijaaPlain
namespace Go.Proofs.Ytogglbhidlnijaa
set_option linter.unusedVariables false
set_option linter.unusedSimpArgs false
set_option linter.unusedSectionVars false
set_option linter.unnecessarySimpa false

theorem nth_ge {l : List Int} {i : Nat} (h : l.length ≤ i) : nth l i = 0 := by simp [nth, h]

/-- A dented measure: its sides and the ranges of its heights. -/
structure Dent where
  L : Int
  R : Int
  rs : List (Int × Int)

structure FitD (d : Dent) : Prop where
  l : I64 d.L
  r : I64 d.R
  lo : ∀ i, I64 (pa d.rs i)
  hi : ∀ i, I64 (pb d.rs i)

/-- A range of heights is right. -/
def okR (x y : Int) : Prop := 0 ≤ x ∧ x ≤ 100 ∧ 0 ≤ y ∧ y ≤ 100 ∧ x ≤ y ∧ y ≤ x + 10
instance (x y : Int) : Decidable (okR x y) := by unfold okR; infer_instance

structure VldD (d : Dent) : Prop where
  n1 : 1 ≤ d.rs.length
  n4 : d.rs.length ≤ 4
  l0 : 0 ≤ d.L
  l1 : d.L ≤ 100
  r0 : 0 ≤ d.R
  r1 : d.R ≤ 100
  ok : ∀ i, i < d.rs.length → okR (pa d.rs i) (pb d.rs i)

/-- The error of CheckDented. -/
def chkD (d : Dent) : Int := if d.rs.length < 1 ∨ 4 < d.rs.length then 6 else if inH d.L = true ∧ inH d.R = true ∧ ∀ i, i < d.rs.length → okR (pa d.rs i) (pb d.rs i) then 0 else 3
theorem chkD_many {d : Dent} (h : d.rs.length < 1 ∨ 4 < d.rs.length) : chkD d = 6 := by unfold chkD; rw [if_pos h]
theorem chkD_ok {d : Dent} : chkD d = 0 ↔ VldD d := by
  unfold chkD
  constructor
  · intro h
    split at h
    · cases h
    · split at h
      · rename_i h1 h2
        have := inH_iff.1 h2.1; have := inH_iff.1 h2.2.1
        exact ⟨by omega, by omega, by omega, by omega, by omega, by omega, h2.2.2⟩
      · cases h
  · intro v
    have := v.n1; have := v.n4
    rw [if_neg (by omega), if_pos ⟨inH_iff.2 ⟨v.l0, v.l1⟩, inH_iff.2 ⟨v.r0, v.r1⟩, v.ok⟩]
theorem chkD_range {d : Dent} (h1 : 1 ≤ d.rs.length) (h2 : d.rs.length ≤ 4) (h : ¬ VldD d) : chkD d = 3 := by
  have := mt chkD_ok.1 h
  unfold chkD at *
  rw [if_neg (by omega)] at *
  split
  · rename_i h3; rw [if_pos h3] at this; exact absurd rfl this
  · rfl
theorem chkD_cases (d : Dent) : chkD d = 0 ∨ chkD d = 3 ∨ chkD d = 6 := by unfold chkD; split <;> (try split) <;> omega

/-- The error of a dented measure at a tilt. -/
def dtd (d : Dent) (t : Int) : Int := if chkD d ≠ 0 then chkD d else if t < -20 ∨ 20 < t then 3 else 0
structure Dl (d : Dent) (t : Int) : Prop where
  v : VldD d
  t0 : -20 ≤ t
  t1 : t ≤ 20
theorem dtd_ok {d : Dent} {t : Int} : dtd d t = 0 ↔ Dl d t := by
  unfold dtd
  constructor
  · intro h
    split at h
    · rename_i h1; exact absurd h h1
    · split at h
      · cases h
      · rename_i h1 h2
        exact ⟨chkD_ok.1 (by omega), by omega, by omega⟩
  · intro k
    have := k.t0; have := k.t1
    rw [if_neg (by simp [chkD_ok.2 k.v]), if_neg (by omega)]
theorem dtd_cases (d : Dent) (t : Int) : dtd d t = 0 ∨ dtd d t = 3 ∨ dtd d t = 6 := by
  have := chkD_cases d
  unfold dtd; split <;> (try split) <;> omega
/-- The error of a dented measure at a tilt and an asked range. -/
def ask (d : Dent) (t x y : Int) : Int := if dtd d t ≠ 0 then dtd d t else if y < x then 3 else 0

/-- The numbers from lo to hi. -/
def upto (lo hi : Int) : List Int := (List.range (hi + 1 - lo).toNat).map fun i : Nat => lo + Int.ofNat i
theorem mem_upto {lo hi h : Int} : h ∈ upto lo hi ↔ lo ≤ h ∧ h ≤ hi := by
  unfold upto
  simp only [List.mem_map, List.mem_range, Int.ofNat_eq_natCast]
  constructor
  · rintro ⟨i, hi, rfl⟩; omega
  · rintro ⟨h1, h2⟩; exact ⟨(h - lo).toNat, by omega, by omega⟩

/-- The truths of ranges: the last place goes fastest. -/
def trs : List (Int × Int) → List (List Int)
  | [] => [[]]
  | r :: rs => (upto r.1 r.2).flatMap fun h => (trs rs).map (h :: ·)

/-- x is a truth of the ranges. -/
def IsT : List (Int × Int) → List Int → Prop
  | [], [] => True
  | r :: rs, h :: x => (r.1 ≤ h ∧ h ≤ r.2) ∧ IsT rs x
  | _, _ => False
theorem mem_trs {rs : List (Int × Int)} : ∀ {x : List Int}, x ∈ trs rs ↔ IsT rs x := by
  induction rs with
  | nil => intro x; cases x <;> simp [trs, IsT]
  | cons r rs ih =>
    intro x
    cases x with
    | nil => simp [trs, IsT]
    | cons h x => simp [trs, IsT, mem_upto, ih]
theorem IsT.len {rs : List (Int × Int)} : ∀ {x : List Int}, IsT rs x → x.length = rs.length := by
  induction rs with
  | nil => intro x h; cases x <;> simp [IsT] at h ⊢
  | cons r rs ih => intro x h; cases x with
    | nil => simp [IsT] at h
    | cons y x => simp [ih h.2]
theorem isT_iff {rs : List (Int × Int)} : ∀ {x : List Int}, IsT rs x ↔ x.length = rs.length ∧ ∀ i, i < rs.length → pa rs i ≤ nth x i ∧ nth x i ≤ pb rs i := by
  induction rs with
  | nil => intro x; cases x <;> simp [IsT]
  | cons r rs ih =>
    intro x
    cases x with
    | nil => simp [IsT]
    | cons h x =>
      simp only [IsT, ih, List.length_cons]
      constructor
      · rintro ⟨h1, h2, h3⟩
        refine ⟨by omega, fun i hi => ?_⟩
        cases i with
        | zero => simpa [pa, pb, nth] using h1
        | succ i => simpa [pa, pb, nth] using h3 i (by omega)
      · rintro ⟨h1, h2⟩
        refine ⟨by simpa [pa, pb, nth] using h2 0 (by omega), by omega, fun i hi => by simpa [pa, pb, nth] using h2 (i + 1) (by omega)⟩

/-- The measure of a truth. -/
def meas (d : Dent) (x : List Int) : Meas := ⟨d.L, d.R, x⟩
theorem meas_vld {d : Dent} (v : VldD d) {x : List Int} (h : IsT d.rs x) : Vld (meas d x) := by
  have hl := h.len
  have h2 := (isT_iff.1 h).2
  refine ⟨by show 1 ≤ x.length; have := v.n1; omega, by show x.length ≤ 8; have := v.n4; omega, v.l0, v.l1, v.r0, v.r1, fun i => ?_, fun i => ?_⟩
  · show 0 ≤ nth x i
    rcases Nat.lt_or_ge i d.rs.length with g | g
    · have := h2 i g; have := v.ok i g; unfold okR at this; omega
    · rw [nth_ge (by omega)]; omega
  · show nth x i ≤ 100
    rcases Nat.lt_or_ge i d.rs.length with g | g
    · have := h2 i g; have := v.ok i g; unfold okR at this; omega
    · rw [nth_ge (by omega)]; omega

/-- What a dented measure holds, truth by truth. -/
def held (d : Dent) (t : Int) : List Int := (trs d.rs).map fun x => holds (meas d x) t
def heldFrom (d : Dent) (t : Int) (b : List Int) : List Int := (trs (d.rs.drop b.length)).map fun x => holds (meas d (b ++ x)) t

end Go.Proofs.Ytogglbhidlnijaa
