/- Plain laws for PintHeld and PintSealed: spans of truths, narrower ranges, seals. No program. -/
import Derived.Test.YtogglbhidlnijaaPlainH
import Derived.Test.YtogglbhidlnijaaSpan
namespace Go.Proofs.Ytogglbhidlnijaa
set_option linter.unusedVariables false
set_option linter.unusedSimpArgs false
set_option linter.unusedSectionVars false
set_option linter.unnecessarySimpa false

theorem held_of {d : Dent} {t : Int} {b : List Int} (h : IsT d.rs b) : ∃ i, i < (held d t).length ∧ nth (held d t) i = holds (meas d b) t :=
  mem_nth (List.mem_map.2 ⟨b, mem_trs.2 h, rfl⟩)
theorem held_at {d : Dent} {t : Int} {i : Nat} (h : i < (held d t).length) : ∃ b, IsT d.rs b ∧ nth (held d t) i = holds (meas d b) t := by
  obtain ⟨b, hb, e⟩ := List.mem_map.1 (show nth (held d t) i ∈ (trs d.rs).map _ from nth_mem h)
  exact ⟨b, mem_trs.1 hb, e.symm⟩
theorem span_in {d : Dent} {t : Int} {b : List Int} (h : IsT d.rs b) : spanLo d t ≤ holds (meas d b) t ∧ holds (meas d b) t ≤ spanHi d t := by
  obtain ⟨i, hi, e⟩ := held_of (t := t) h
  have h1 := minTo_le (l := held d t) hi
  have h2 := maxTo_ge (l := held d t) hi
  unfold spanLo spanHi
  omega
theorem span_lo {d : Dent} {t : Int} (k : Dl d t) : ∃ b, IsT d.rs b ∧ holds (meas d b) t = spanLo d t := by
  obtain ⟨i, hi, e⟩ := minTo_at (held_ok k).1 (Nat.le_refl _)
  obtain ⟨b, hb, e2⟩ := held_at hi
  exact ⟨b, hb, by unfold spanLo; omega⟩
theorem span_hi {d : Dent} {t : Int} (k : Dl d t) : ∃ b, IsT d.rs b ∧ holds (meas d b) t = spanHi d t := by
  obtain ⟨i, hi, e⟩ := maxTo_at (held_ok k).1 (Nat.le_refl _)
  obtain ⟨b, hb, e2⟩ := held_at hi
  exact ⟨b, hb, by unfold spanHi; omega⟩

theorem cnt_pos {d : Dent} {t x y : Int} {b : List Int} (h : IsT d.rs b) (h1 : x ≤ holds (meas d b) t) (h2 : holds (meas d b) t ≤ y) : cnt d t x y ≠ 0 := by
  intro e
  obtain ⟨i, hi, e2⟩ := held_of (t := t) h
  exact cntTo_none.1 e i hi (by omega)
theorem right_end {d : Dent} {t e : Int} (k : Dl d t) {b : List Int} (h : IsT d.rs b) (he : holds (meas d b) t = e) : rightE d t e e = 0 := by
  have ha : ask d t e e = 0 := ask_ok.2 ⟨k, Int.le_refl _⟩
  have hc := cnt_pos (t := t) (x := e) (y := e) h (by omega) (by omega)
  unfold rightE
  rw [if_neg, ha]
  rintro ⟨_, hs⟩
  unfold sealOf at hs
  rw [if_pos ha] at hs
  unfold sealN at hs
  rw [if_neg hc] at hs
  split at hs <;> cases hs

/-- A dented measure with a narrower range of a place. -/
def nar (d : Dent) (i : Nat) (x : Int) : Dent := ⟨d.L, d.R, d.rs.set i (x, pb d.rs i)⟩
theorem nar_pa {d : Dent} {i j : Nat} {x : Int} (hi : i < d.rs.length) : pa (nar d i x).rs j = if j = i then x else pa d.rs j := by
  unfold nar pa
  by_cases h : i = j
  · subst h; simp [hi, List.getD_eq_getElem?_getD]
  · rw [if_neg (fun e => h e.symm)]; simp [List.getD_eq_getElem?_getD, List.getElem?_set, h]
theorem nar_pb {d : Dent} {i j : Nat} {x : Int} (hi : i < d.rs.length) : pb (nar d i x).rs j = pb d.rs j := by
  unfold nar pb
  by_cases h : i = j
  · subst h; simp [hi, List.getD_eq_getElem?_getD]
  · simp [List.getD_eq_getElem?_getD, List.getElem?_set, h]
theorem nar_vld {d : Dent} (v : VldD d) {i : Nat} (hi : i < d.rs.length) {x : Int} (h0 : pa d.rs i ≤ x) (h1 : x ≤ pb d.rs i) : VldD (nar d i x) := by
  refine ⟨by simpa [nar] using v.n1, by simpa [nar] using v.n4, v.l0, v.l1, v.r0, v.r1, fun j hj => ?_⟩
  rw [nar_pa hi, nar_pb hi]
  have := v.ok j (by simpa [nar] using hj)
  unfold okR at *
  split
  · rename_i e; subst e; omega
  · exact this
theorem nar_isT {d : Dent} {i : Nat} (hi : i < d.rs.length) {x : Int} (h0 : pa d.rs i ≤ x) {b : List Int} (h : IsT (nar d i x).rs b) : IsT d.rs b := by
  obtain ⟨hl, hr⟩ := isT_iff.1 h
  have hl2 : (nar d i x).rs.length = d.rs.length := by simp [nar]
  refine isT_iff.2 ⟨by omega, fun j hj => ?_⟩
  have := hr j (by omega)
  rw [nar_pa hi, nar_pb hi] at this
  split at this
  · rename_i e; subst e; omega
  · exact this
theorem nar_span {d : Dent} {t : Int} (k : Dl d t) {i : Nat} (hi : i < d.rs.length) {x : Int} (h0 : pa d.rs i ≤ x) (h1 : x ≤ pb d.rs i) :
    dtd (nar d i x) t = 0 ∧ spanLo d t ≤ spanLo (nar d i x) t ∧ spanHi (nar d i x) t ≤ spanHi d t ∧ spanLo (nar d i x) t ≤ spanHi (nar d i x) t := by
  have k2 : Dl (nar d i x) t := ⟨nar_vld k.v hi h0 h1, k.t0, k.t1⟩
  obtain ⟨b, hb, eb⟩ := span_lo k2
  obtain ⟨c, hc, ec⟩ := span_hi k2
  have e : ∀ b, meas (nar d i x) b = meas d b := fun _ => rfl
  have s1 := span_in (t := t) (nar_isT hi h0 hb)
  have s2 := span_in (t := t) (nar_isT hi h0 hc)
  have s3 := span_in (t := t) hc
  have s4 := span_in (t := t) hb
  rw [e] at eb ec s3 s4
  exact ⟨dtd_ok.2 k2, by omega, by omega, by omega⟩

/-- What a seal says. -/
theorem seal_facts {d : Dent} {t x y x' y' : Int} (k : Dl d t) (hxy : x ≤ y) (hx : x' ≤ x) (hy : y ≤ y') {b : List Int} (hb : IsT d.rs b) :
    ask d t x y = 0 ∧ ask d t x' y' = 0 ∧ sealOf d t x y ≤ sealOf d t x' y' ∧ (sealOf d t x y = 2 → (x ≤ holds (meas d b) t ∧ holds (meas d b) t ≤ y) ∧ rightE d t x y = 0 ∧ wrongE d t x y = 5) ∧
    (sealOf d t x y = 0 → ¬ (x ≤ holds (meas d b) t ∧ holds (meas d b) t ≤ y) ∧ rightE d t x y = 20 ∧ wrongE d t x y = 0) ∧ (sealOf d t x y = 1 → rightE d t x y = 0 ∧ wrongE d t x y = 0) := by
  have a1 : ask d t x y = 0 := ask_ok.2 ⟨k, hxy⟩
  have a2 : ask d t x' y' = 0 := ask_ok.2 ⟨k, by omega⟩
  obtain ⟨i, hi, ei⟩ := held_of (t := t) hb
  have hall : cnt d t x y = (held d t).length → cnt d t x' y' = (held d t).length := fun h => by
    refine cntTo_all.2 fun j hj => ?_
    have := cntTo_all.1 h j hj
    omega
  have hsome : cnt d t x y ≠ 0 → cnt d t x' y' ≠ 0 := fun h h' => h (by
    refine cntTo_none.2 fun j hj => ?_
    have := cntTo_none.1 h' j hj
    omega)
  have hpos := (held_ok k).1
  have e1 : sealOf d t x y = sealN d t x y := by unfold sealOf; rw [if_pos a1]
  have e2 : sealOf d t x' y' = sealN d t x' y' := by unfold sealOf; rw [if_pos a2]
  refine ⟨a1, a2, ?_, fun h => ⟨?_, ?_, ?_⟩, fun h => ⟨?_, ?_, ?_⟩, fun h => ⟨?_, ?_⟩⟩
  · rw [e1, e2]
    unfold sealN
    by_cases g1 : cnt d t x y = (held d t).length
    · rw [if_pos g1, if_pos (hall g1)]; exact Int.le_refl _
    · rw [if_neg g1]
      by_cases g2 : cnt d t x y = 0
      · rw [if_pos g2]; split <;> (try split) <;> omega
      · rw [if_neg g2, if_neg (hsome g2)]; split <;> omega
  · rw [e1] at h
    unfold sealN at h
    split at h
    · rename_i g
      have := cntTo_all.1 g i hi
      omega
    · split at h <;> cases h
  · unfold rightE; rw [if_neg (by omega), a1]
  · unfold wrongE; rw [if_pos ⟨a1, h⟩]
  · rw [e1] at h
    unfold sealN at h
    split at h
    · cases h
    · split at h
      · rename_i g
        have := cntTo_none.1 g i hi
        omega
      · cases h
  · unfold rightE; rw [if_pos ⟨a1, h⟩]
  · unfold wrongE; rw [if_neg (by omega), a1]
  · unfold rightE; rw [if_neg (by omega), a1]
  · unfold wrongE; rw [if_neg (by omega), a1]

end Go.Proofs.Ytogglbhidlnijaa
