/- Plain laws of pools, as a walk from place to place meets them. No program. -/
import Derived.Test.YtogglbhidlnijaaPlainC
namespace Go.Proofs.Ytogglbhidlnijaa
set_option linter.unusedVariables false
set_option linter.unusedSimpArgs false
set_option linter.unusedSectionVars false
set_option linter.unnecessarySimpa false

/-- Behind how many places the first k pools end. -/
def nx (p : List (Int × Int)) : Nat → Nat
  | 0 => 0
  | k + 1 => (pb p k).toNat + 1

/-- What a pool is, with what lies before it. -/
structure PoolAt (m : Meas) (t : Int) (p : List (Int × Int)) (k A B : Nat) : Prop where
  ea : pa p k = A
  eb : pb p k = B
  le : nx p k ≤ A
  lt : 0 < k → nx p k < A
  ab : A ≤ B
  bn : B < m.hs.length
  nxt : nx p (k + 1) = B + 1
  dry : ∀ j : Nat, nx p k ≤ j → j < A → dep m t j = 0
  wet : ∀ j : Nat, A ≤ j → j ≤ B → dep m t j ≠ 0 ∧ topL m t j = topL m t A ∧ topR m t j = topR m t A

theorem PoolsIn.nx_le {m : Meas} {t : Int} {p : List (Int × Int)} (h : PoolsIn m t m.hs.length p) {k : Nat} (hk : k ≤ p.length) : nx p k ≤ m.hs.length := by
  cases k with
  | zero => exact Nat.zero_le _
  | succ k =>
    have := h.hi k (by omega); have := h.lo k (by omega); have := h.le k (by omega)
    show (pb p k).toNat + 1 ≤ _; omega
theorem PoolsIn.pool {m : Meas} {t : Int} {p : List (Int × Int)} (h : PoolsIn m t m.hs.length p) {k : Nat} (hk : k < p.length) : ∃ A B : Nat, PoolAt m t p k A B := by
  have h1 := h.lo k hk; have h2 := h.le k hk; have h3 := h.hi k hk
  have ea : pa p k = ((pa p k).toNat : Int) := by omega
  refine ⟨(pa p k).toNat, (pb p k).toNat, ea, by omega, ?_, ?_, by omega, by omega, rfl, ?_, ?_⟩
  · cases k with
    | zero => exact Nat.zero_le _
    | succ k =>
      have := h.gap k hk; have := h.lo k (by omega); have := h.le k (by omega)
      show (pb p k).toNat + 1 ≤ _; omega
  · intro h0
    cases k with
    | zero => omega
    | succ k =>
      have := h.gap k hk; have := h.lo k (by omega); have := h.le k (by omega)
      show (pb p k).toNat + 1 < _; omega
  · intro j j0 j1
    cases k with
    | zero => exact h.d0 (by omega) j (by omega) (by omega)
    | succ k =>
      have j0 : (pb p k).toNat + 1 ≤ j := j0
      have := h.lo k (by omega); have := h.le k (by omega)
      exact h.d1 k hk j (by omega) (by omega)
  · intro j j0 j1
    have := h.wet k hk j (by omega) (by omega)
    rw [← ea]
    exact this
theorem PoolsIn.rest {m : Meas} {t : Int} {p : List (Int × Int)} (h : PoolsIn m t m.hs.length p) (j : Nat) (h0 : nx p p.length ≤ j) (h1 : j < m.hs.length) : dep m t j = 0 := by
  cases e : p.length with
  | zero => exact h.d3 e j (by omega) (by omega)
  | succ k =>
    rw [e] at h0
    have h0 : (pb p k).toNat + 1 ≤ j := h0
    have := h.lo k (by omega); have := h.le k (by omega)
    refine h.d2 (by omega) j ?_ (by omega)
    rw [e, Nat.add_sub_cancel]; omega
theorem sumTo_dry {f : Nat → Int} {a : Nat} : ∀ b, a ≤ b → (∀ j, a ≤ j → j < b → f j = 0) → sumTo f b = sumTo f a
  | 0, h, _ => by
    obtain rfl : a = 0 := by omega
    rfl
  | b + 1, h, hz => by
    rcases Nat.lt_or_ge b a with g | g
    · obtain rfl : a = b + 1 := by omega
      rfl
    · have := sumTo_dry b g fun j h1 h2 => hz j h1 (by omega)
      have := hz b g (by omega)
      simp only [sumTo]; omega
theorem PoolAt.side {m : Meas} {t : Int} {p : List (Int × Int)} {k A B : Nat} (h : PoolAt m t p k A B) {j : Nat} (h0 : A ≤ j) (h1 : j ≤ B) : sideOf m t j = sideOf m t A := by
  obtain ⟨_, e1, e2⟩ := h.wet j h0 h1
  unfold sideOf; rw [e1, e2]
theorem PoolAt.lev {m : Meas} {t : Int} {p : List (Int × Int)} {k A B : Nat} (h : PoolAt m t p k A B) {j : Nat} (h0 : A ≤ j) (h1 : j ≤ B) : dep m t j + hAt m t j = dep m t A + hAt m t A := by
  obtain ⟨_, e1, e2⟩ := h.wet j h0 h1
  unfold dep depth; rw [e1, e2]; omega

end Go.Proofs.Ytogglbhidlnijaa
