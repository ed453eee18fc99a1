/- Plain laws for the law PintFlat: no dent higher than a side, no tilt. No program. -/
import Derived.Test.YtogglbhidlnijaaPlainC
namespace Go.Proofs.Ytogglbhidlnijaa
set_option linter.unusedVariables false
set_option linter.unusedSimpArgs false
set_option linter.unusedSectionVars false
set_option linter.unnecessarySimpa false

theorem flat_hAt {m : Meas} {i : Int} (h0 : 0 ≤ i) (h1 : i < m.hs.length) : hAt m 0 i = nth m.hs i.toNat := by
  rw [hAt_mid h0 h1]; omega
theorem flat_depth {m : Meas} (h : ∀ k, k < m.hs.length → nth m.hs k ≤ min m.L m.R) {i : Nat} (hi : i < m.hs.length) : dep m 0 i = min m.L m.R - nth m.hs i := by
  have a : topL m 0 i = m.L := by
    refine topL_of (by omega) (fun j h0 h1 => ?_) ⟨-1, by omega, by omega, by rw [hAt_neg (by omega)]; omega⟩
    by_cases g : j < 0
    · rw [hAt_neg g]; omega
    · rw [flat_hAt (by omega) (by omega)]; have := h j.toNat (by omega); omega
  have b : topR m 0 i = m.R := by
    refine topR_of (by omega) (fun j h0 h1 => ?_) ⟨m.hs.length, by omega, by omega, by rw [hAt_end (by omega) (by omega)]; omega⟩
    by_cases g : (m.hs.length : Int) ≤ j
    · rw [hAt_end (by omega) g]; omega
    · rw [flat_hAt (by omega) (by omega)]; have := h j.toNat (by omega); omega
  unfold dep depth
  rw [a, b, flat_hAt (by omega) (by omega)]
  rfl
theorem flat_holds {m : Meas} (h : ∀ k, k < m.hs.length → nth m.hs k ≤ min m.L m.R) : holds m 0 = sumTo (fun i => min m.L m.R - nth m.hs i) m.hs.length :=
  sumTo_congr fun i hi => flat_depth h hi
theorem sumTo_const (c : Int) (n : Nat) : sumTo (fun _ => c) n = n * c := by
  induction n with
  | zero => simp [sumTo]
  | succ n ih => simp only [sumTo, ih]; rw [Int.natCast_add, Int.add_mul]; simp

/-- A measure whose bottom is 0 throughout. -/
def flat (n : Nat) (a b : Int) : Meas := ⟨a, b, List.replicate n 0⟩
theorem flatm_len (n : Nat) (a b : Int) : (flat n a b).hs.length = n := by simp [flat]
theorem nth_rep (n i : Nat) : nth (List.replicate n 0) i = 0 := by
  by_cases h : i < n <;> simp [nth, List.getElem?_replicate, h]
theorem flat_vld {n : Nat} {a b : Int} (n1 : 1 ≤ n) (n8 : n ≤ 8) (a0 : 0 ≤ a) (a1 : a ≤ 100) (b0 : 0 ≤ b) (b1 : b ≤ 100) : Vld (flat n a b) :=
  ⟨by rw [flatm_len]; exact n1, by rw [flatm_len]; exact n8, a0, a1, b0, b1, fun i => by show 0 ≤ nth (List.replicate n 0) i; rw [nth_rep]; omega, fun i => by show nth (List.replicate n 0) i ≤ 100; rw [nth_rep]; omega⟩
theorem flat_dep {n : Nat} {a b : Int} (a0 : 0 ≤ a) (b0 : 0 ≤ b) {i : Nat} (hi : i < n) : dep (flat n a b) 0 i = min a b := by
  rw [flat_depth (fun k _ => by show nth (List.replicate n 0) k ≤ min a b; rw [nth_rep]; omega) (by rw [flatm_len]; exact hi)]
  show min a b - nth (List.replicate n 0) i = _
  rw [nth_rep]; omega
theorem flat_all {n : Nat} {a b : Int} (a0 : 0 ≤ a) (b0 : 0 ≤ b) : holds (flat n a b) 0 = n * min a b := by
  rw [← sumTo_const]
  show sumTo (dep (flat n a b) 0) (flat n a b).hs.length = _
  rw [flatm_len]
  exact sumTo_congr fun i hi => flat_dep a0 b0 hi
theorem mul_n {n : Nat} {c : Int} (h : n ≤ 8) (c0 : 0 ≤ c) (c1 : c ≤ 100) : 0 ≤ (n : Int) * c ∧ (n : Int) * c ≤ 800 := by
  have : n = 0 ∨ n = 1 ∨ n = 2 ∨ n = 3 ∨ n = 4 ∨ n = 5 ∨ n = 6 ∨ n = 7 ∨ n = 8 := by omega
  rcases this with rfl | rfl | rfl | rfl | rfl | rfl | rfl | rfl | rfl <;> omega

end Go.Proofs.Ytogglbhidlnijaa
