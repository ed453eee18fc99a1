/- Texts of one proof, laid together: Ai, Aj. -/
import Derived.Test.YtpnfhcnnodolbaaZY10
import Derived.Test.YtpnfhcnnodolbaaZY7
import Derived.Test.YtpnfhcnnodolbaaZY2
import Derived.Test.YtpnfhcnnodolbaaZMoreA34
import Derived.Test.YtpnfhcnnodolbaaZY18
import Derived.Test.YtpnfhcnnodolbaaZY17
import Derived.Test.YtpnfhcnnodolbaaZY16
import Derived.Test.YtpnfhcnnodolbaaZY8
import Derived.Test.YtpnfhcnnodolbaaZMoreA35
import Derived.Test.YtpnfhcnnodolbaaZY12
import Derived.Test.YtpnfhcnnodolbaaZY3
set_option linter.unusedVariables false
set_option linter.unusedSimpArgs false
set_option linter.unusedSectionVars false
set_option linter.unnecessarySimpa false
set_option maxRecDepth 100000
namespace Go.Proofs.Ytpnfhcnnodolbaa
open Go Go.RowKit Game
theorem low_le (p : List Int) : ∀ k, lowN p k ≤ 0
 | 0 => Int.le_refl _
 | k + 1 => by have := low_le p k; simp only [lowN]; split <;> omega
theorem high_ge (p : List Int) : ∀ k, 0 ≤ highN p k
 | 0 => Int.le_refl _
 | k + 1 => by have := high_ge p k; simp only [highN]; split <;> omega
theorem outN_len (n : Nat) (t : List Nat) (p : List Int) : ∀ k, (outN n t p k).length = n
 | 0 => by simp [outN]
 | k + 1 => by simp [outN, outN_len n t p k]
theorem out_prt (n : Nat) (t : List Nat) (p : List Int) (hp : ∀ i, -10000000 ≤ nth p i ∧ nth p i ≤ 10000000) : ∀ k, Prt (outN n t p k)
 | 0 => fun j => by
  have : nth (List.replicate n (0 : Int)) j = 0 := by
   simp only [nth, List.getD_eq_getElem?_getD, List.getElem?_replicate]
   split <;> rfl
  show 0 ≤ nth (List.replicate n (0 : Int)) j ∧ _
  rw [show nth (outN n t p 0) j = nth (List.replicate n (0 : Int)) j from rfl, this]; omega
 | k + 1 => fun j => by
  have h1 := out_prt n t p hp k j
  have h2 := hp k
  show 0 ≤ nth ((outN n t p k).set _ _) j ∧ nth ((outN n t p k).set _ _) j ≤ _
  rw [nth_set_]
  unfold absI
  split
  ·split <;> omega
  ·omega
theorem put_prt (n : Nat) (t : List Nat) (p : List Int) (hp : ∀ i, -10000000 ≤ nth p i ∧ nth p i ≤ 10000000) : Prt (putL n t p) := by
 unfold putL
 split
 ·intro j; simp [nth]
 ·exact out_prt n t p hp _
theorem nth_three (x y z : Int) {P : Int → Prop} (h0 : P 0) (hx : P x) (hy : P y) (hz : P z) (i : Nat) : P (nth [x, y, z] i) := by
 match i with
 | 0 => exact hx
 | 1 => exact hy
 | 2 => exact hz
 | i + 3 => simpa [nth] using h0
theorem nth_two (x y : Int) {P : Int → Prop} (h0 : P 0) (hx : P x) (hy : P y) (i : Nat) : P (nth [x, y] i) := by
 match i with
 | 0 => exact hx
 | 1 => exact hy
 | i + 2 => simpa [nth] using h0
theorem nth_one (x : Int) {P : Int → Prop} (h0 : P 0) (hx : P x) (i : Nat) : P (nth [x] i) := by
 match i with
 | 0 => exact hx
 | i + 1 => simpa [nth] using h0
def Bd3 (A : Nat → Int) : Prop := ∀ i, -1000 ≤ A i ∧ A i ≤ 1000
theorem tri_bd {A C : Nat → Int} (hA : Bd3 A) (hC : Bd3 C) (i k : Nat) : -2000000 ≤ A i * C k - C i * A k ∧ A i * C k - C i * A k ≤ 2000000 := by
 have h1 := mul_bd3 (hA i) (hC k)
 have h2 := mul_bd3 (hC i) (hA k)
 omega
theorem cnJ_prt {n : Nat} {A C : Nat → Int} (hA : Bd3 A) (hC : Bd3 C) (i k : Nat) : ∀ j, ∀ x ∈ cnJ n A C i k j, Prt x
 | 0, x, h => by cases h
 | j + 1, x, h => by
  rcases List.mem_append.1 h with h | h
  ·exact cnJ_prt hA hC i k j x h
  ·rw [List.mem_singleton.1 h]
   have h1 := tri_bd hA hC k j
   have h2 := tri_bd hA hC j i
   have h3 := tri_bd hA hC i k
   exact put_prt _ _ _ (nth_three _ _ _ (P := fun z => -10000000 ≤ z ∧ z ≤ 10000000) (by omega) (by omega) (by omega) (by omega))
theorem cnK_prt {n : Nat} {A C : Nat → Int} (hA : Bd3 A) (hC : Bd3 C) (i : Nat) : ∀ k, ∀ x ∈ cnK n A C i k, Prt x
 | 0, x, h => by cases h
 | k + 1, x, h => by
  have a1 := hA i; have a2 := hC i; have a3 := hA k; have a4 := hC k
  rcases List.mem_append.1 h with h | h
  ·rcases List.mem_append.1 h with h | h
   ·exact cnK_prt hA hC i k x h
   ·simp only [List.mem_cons, List.not_mem_nil, or_false] at h
    rcases h with rfl | rfl
    ·exact put_prt _ _ _ (nth_two _ _ (P := fun z => -10000000 ≤ z ∧ z ≤ 10000000) (by omega) (by omega) (by omega))
    ·exact put_prt _ _ _ (nth_two _ _ (P := fun z => -10000000 ≤ z ∧ z ≤ 10000000) (by omega) (by omega) (by omega))
  ·exact cnJ_prt hA hC i k k x h
theorem cnI_prt {n : Nat} {A C : Nat → Int} (hA : Bd3 A) (hC : Bd3 C) : ∀ i, ∀ x ∈ cnI n A C i, Prt x
 | 0, x, h => by cases h
 | i + 1, x, h => by
  rcases List.mem_append.1 h with h | h
  ·rcases List.mem_append.1 h with h | h
   ·exact cnI_prt hA hC i x h
   ·rw [List.mem_singleton.1 h]
    exact put_prt _ _ _ (nth_one _ (P := fun z => -10000000 ≤ z ∧ z ≤ 10000000) (by omega) (by omega))
  ·exact cnK_prt hA hC i i x h
theorem exA_bd {l : List Met} (v : VldM l) {u c : Int} (hu : 0 ≤ u ∧ u ≤ 1000) (s : Bool) : Bd3 (exA l u c s) := fun i => by
 have := badL_bd v s i
 show -1000 ≤ badL (mtl l i) s - u ∧ badL (mtl l i) s - u ≤ 1000
 omega
theorem exC_bd {l : List Met} (v : VldM l) {u c : Int} (hc : 0 ≤ c ∧ c ≤ 1000) (s : Bool) : Bd3 (exC l u c s) := fun i => by
 have := goodC_bd v s i
 show -1000 ≤ c - goodC (mtl l i) s ∧ c - goodC (mtl l i) s ≤ 1000
 omega
def edF (n : Nat) (G : List Int → Bool) (L : List (List Int)) : Nat → List (List Int)
 | 0 => []
 | k + 1 => if (row L k).length = n ∧ G (row L k) = true then edF n G L k ++ [row L k] else edF n G L k
def edg (l : List Met) (u c : Int) (s : Bool) : List (List Int) := edF l.length (isG l u c s) (cnd l u c s) (cnd l u c s).length
end Go.Proofs.Ytpnfhcnnodolbaa
