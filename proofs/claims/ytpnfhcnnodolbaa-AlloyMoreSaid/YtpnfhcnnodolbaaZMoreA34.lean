/- Texts of one proof, laid together: Mem, Game, Edg, Gl. -/
import Derived.Test.YtpnfhcnnodolbaaZY2
import Derived.WalkKit
import Derived.Below
import Derived.Deep.Draws
set_option linter.unusedVariables false
set_option linter.unusedSimpArgs false
set_option linter.unusedSectionVars false
set_option linter.unnecessarySimpa false
namespace Go.Proofs.Ytpnfhcnnodolbaa
open Go Go.RowKit
theorem nth_zero (x : Int) (l : List Int) : nth (x :: l) 0 = x := by simp [nth]
theorem nth_succ (x : Int) (l : List Int) (i : Nat) : nth (x :: l) (i + 1) = nth l i := by simp [nth]
end Go.Proofs.Ytpnfhcnnodolbaa
namespace Go.Proofs.Ytpnfhcnnodolbaa.Game
theorem sm_add (n : Nat) (f g : Nat → Int) : sm n (fun i => f i + g i) = sm n f + sm n g := by
 induction n with
 | zero => rfl
 | succ k ih => simp only [sm]; rw [ih]; omega
theorem sm_mixed {n : Nat} {f : Nat → Int} (h : sm n f = 0) (hne : ∃ i, i < n ∧ f i ≠ 0) : ∃ i, i < n ∧ f i < 0 := by
 refine Classical.byContradiction fun hn => ?_
 have hnn : ∀ i, i < n → 0 ≤ f i := fun i hi => by
  refine Int.not_lt.1 fun hl => hn ⟨i, hi, hl⟩
 obtain ⟨i, hi, h0⟩ := hne
 have := sm_pos hnn hi (by have := hnn i hi; omega)
 omega
def cn : Nat → (Nat → Bool) → Nat
 | 0, _ => 0
 | n + 1, f => cn n f + (if f n then 1 else 0)
theorem cn_le {n : Nat} {f g : Nat → Bool} (h : ∀ i, i < n → f i = true → g i = true) : cn n f ≤ cn n g := by
 induction n with
 | zero => simp [cn]
 | succ k ih =>
  simp only [cn]
  have := ih fun i hi => h i (by omega)
  have := h k (by omega)
  cases hf : f k <;> cases hg : g k <;> simp_all <;> omega
theorem cn_lt {n : Nat} {f g : Nat → Bool} (h : ∀ i, i < n → f i = true → g i = true) {i : Nat} (hi : i < n) (hf : f i = false) (hg : g i = true) : cn n f < cn n g := by
 induction n with
 | zero => omega
 | succ k ih =>
  simp only [cn]
  rcases Nat.lt_or_ge i k with hk | hk
  ·have := ih (fun i hi => h i (by omega)) hk
   have := h k (by omega)
   cases hf : f k <;> cases hg : g k <;> simp_all <;> omega
  ·obtain rfl : i = k := by omega
   have := cn_le (n := i) (f := f) (g := g) fun i hi => h i (by omega)
   rw [hf, hg]; simp; omega
theorem ratio_trans {a b c d e f : Int} (hd : 0 < d) (hb : 0 < b) (hf : 0 < f) (h1 : a * d ≤ c * b) (h2 : c * f ≤ e * d) : a * f ≤ e * b := by
 have h3 : a * d * f ≤ c * b * f := Int.mul_le_mul_of_nonneg_right h1 (by omega)
 have h4 : c * f * b ≤ e * d * b := Int.mul_le_mul_of_nonneg_right h2 (by omega)
 have e1 : a * d * f = (a * f) * d := by grind
 have e2 : c * b * f = c * f * b := by grind
 have e3 : e * d * b = (e * b) * d := by grind
 rw [e1, e2] at h3
 rw [e3] at h4
 exact Int.le_of_mul_le_mul_right (Int.le_trans h3 h4) hd
theorem min_ratio (B : Nat → Prop) (p q : Nat → Int) : ∀ N, (∀ i, i < N → B i → 0 < q i) → (∃ i, i < N ∧ B i) → ∃ i, i < N ∧ B i ∧ ∀ j, j < N → B j → p i * q j ≤ p j * q i
 | 0, _, h => by obtain ⟨i, hi, _⟩ := h; omega
 | N + 1, hq, h => by
  by_cases hN : ∃ i, i < N ∧ B i
  ·obtain ⟨i, hi, hB, hm⟩ := min_ratio B p q N (fun i hi => hq i (by omega)) hN
   by_cases hb : B N ∧ ¬ (p i * q N ≤ p N * q i)
   ·refine ⟨N, by omega, hb.1, fun j hj hBj => ?_⟩
    rcases Nat.lt_or_ge j N with g | g
    ·exact ratio_trans (hq i (by omega) hB) (hq N (by omega) hb.1) (hq j (by omega) hBj) (by omega) (hm j g hBj)
    ·obtain rfl : j = N := by omega
     exact Int.le_refl _
   ·refine ⟨i, by omega, hB, fun j hj hBj => ?_⟩
    rcases Nat.lt_or_ge j N with g | g
    ·exact hm j g hBj
    ·obtain rfl : j = N := by omega
     exact Classical.byContradiction fun hc => hb ⟨hBj, hc⟩
  ·obtain ⟨i, hi, hB⟩ := h
   obtain rfl : i = N := by
    rcases Nat.lt_or_ge i N with g | g
    ·exact absurd ⟨i, g, hB⟩ hN
    ·omega
   refine ⟨i, by omega, hB, fun j hj hBj => ?_⟩
   rcases Nat.lt_or_ge j i with g | g
   ·exact absurd ⟨j, g, hBj⟩ hN
   ·obtain rfl : j = i := by omega
    exact Int.le_refl _
def ag (A : Nat → Nat → Int) (m : Nat) (x : Nat → Int) (j : Nat) : Int := sm m fun i => x i * A i j
theorem ag_lin (A : Nat → Nat → Int) (m : Nat) (x z : Nat → Int) (P Q : Int) (j : Nat) : ag A m (fun i => Q * x i + P * z i) j = Q * ag A m x j + P * ag A m z j := by
 unfold ag
 rw [← sm_mul, ← sm_mul, ← sm_add]
 exact sm_congr fun i _ => by grind
theorem sm_lin (m : Nat) (x z : Nat → Int) (P Q : Int) : sm m (fun i => Q * x i + P * z i) = Q * sm m x + P * sm m z := by
 rw [← sm_mul, ← sm_mul, ← sm_add]
def ab (p : Int) : Int := if 0 ≤ p then p else -p
theorem ab_nonneg (p : Int) : 0 ≤ ab p := by unfold ab; split <;> omega
theorem ab_pos {p : Int} (h : p ≠ 0) : 0 < ab p := by unfold ab; split <;> omega
theorem ab_par {x y p q : Int} (hx : 0 < x) (hy : 0 < y) (h : x * p = y * q) : x * ab p = y * ab q := by
 unfold ab
 by_cases hp : 0 ≤ p
 ·have h1 : 0 ≤ x * p := Int.mul_nonneg (by omega) hp
  have hq : 0 ≤ q := by
   refine Int.not_lt.1 fun hq => ?_
   have := Int.mul_neg_of_pos_of_neg hy hq
   omega
  rw [if_pos hp, if_pos hq]; exact h
 ·have h1 : x * p < 0 := Int.mul_neg_of_pos_of_neg hx (by omega)
  have hq : ¬ 0 ≤ q := fun hq => by
   have := Int.mul_nonneg (Int.le_of_lt hy) hq
   omega
  rw [if_neg hp, if_neg hq, Int.mul_neg, Int.mul_neg, h]
theorem put_zero : ∀ (s : List Nat) (p : List Int) (r : Nat), r ∉ s → put s p r = 0
 | [], _, _, _ => by simp [put]
 | _ :: _, [], _, _ => by simp [put]
 | a :: s, p :: q, r, h => by
  simp at h
  simp only [put, if_neg h.1]
  exact put_zero s q r h.2
theorem sm_split {m a : Nat} (f : Nat → Int) (h : a < m) : sm m f = f a + sm m fun i => if i = a then 0 else f i := by
 induction m with
 | zero => omega
 | succ k ih =>
  simp only [sm]
  rcases Nat.lt_or_ge a k with g | g
  ·rw [ih g, if_neg (by omega)]; omega
  ·obtain rfl : a = k := by omega
   rw [if_pos rfl, sm_congr (f := fun i => if i = a then 0 else f i) (g := f) (fun i hi => if_neg (by omega))]; omega
theorem ls_congr {f g : Nat → Int} : ∀ s : List Nat, (∀ i ∈ s, f i = g i) → ls f s = ls g s
 | [], _ => rfl
 | a :: s, h => by simp only [ls]; rw [h a (by simp), ls_congr s fun i hi => h i (by simp [hi])]
theorem sm_list {m : Nat} : ∀ (s : List Nat) (f : Nat → Int), s.Nodup → (∀ a ∈ s, a < m) → (∀ i, i < m → i ∉ s → f i = 0) → sm m f = ls f s
 | [], f, _, _, h => sm_zero fun i hi => h i hi (by simp)
 | a :: s, f, hn, hl, h => by
  rw [List.nodup_cons] at hn
  rw [sm_split f (hl a (by simp)), sm_list s _ hn.2 (fun b hb => hl b (by simp [hb]))]
  ·simp only [ls]
   rw [ls_congr s fun i hi => if_neg (show ¬ i = a from fun e => hn.1 (e ▸ hi))]
  ·intro i hi his
   by_cases g : i = a
   ·rw [if_pos g]
   ·rw [if_neg g]; exact h i hi (by simp [g, his])
def Gd (p : List Int) : Prop := (∃ a ∈ p, a ≠ 0) ∧ ¬ ((∃ a ∈ p, a < 0) ∧ ∃ a ∈ p, 0 < a)
theorem dep2 (Q : Nat → Prop) (a b : Nat → Int) (h : ∀ i j, Q i → Q j → a i * b j = a j * b i) : ∃ x y : Int, (x ≠ 0 ∨ y ≠ 0) ∧ ∀ j, Q j → x * a j + y * b j = 0 := by
 by_cases g : ∃ j, Q j ∧ a j ≠ 0
 ·obtain ⟨j, hj, hn⟩ := g
  exact ⟨b j, - a j, .inr (by omega), fun i hi => by have := h i j hi hj; grind⟩
 ·refine ⟨1, 0, .inl (by decide), fun i hi => ?_⟩
  have : a i = 0 := Classical.byContradiction fun hn => g ⟨i, hi, hn⟩
  rw [this]; simp
theorem dep3 (Q : Nat → Prop) (a b c : Nat → Int) (h : ∀ i j k, Q i → Q j → Q k → a i * (b j * c k - b k * c j) - a j * (b i * c k - b k * c i) + a k * (b i * c j - b j * c i) = 0) :
 ∃ x y z : Int, (x ≠ 0 ∨ y ≠ 0 ∨ z ≠ 0) ∧ ∀ j, Q j → x * a j + y * b j + z * c j = 0 := by
 by_cases g : ∃ i j, Q i ∧ Q j ∧ a i * b j ≠ a j * b i
 ·obtain ⟨i, j, hi, hj, hn⟩ := g
  exact ⟨b i * c j - b j * c i, - (a i * c j - a j * c i), a i * b j - a j * b i, .inr (.inr (by omega)), fun k hk => by have := h i j k hi hj hk; grind⟩
 ·obtain ⟨x, y, h1, h2⟩ := dep2 Q a b fun i j hi hj => Classical.byContradiction fun hn => g ⟨i, j, hi, hj, hn⟩
  refine ⟨x, y, 0, ?_, fun j hj => by have := h2 j hj; omega⟩
  rcases h1 with h | h
  ·exact .inl h
  ·exact .inr (.inl h)
theorem ag_list {A : Nat → Nat → Int} {m : Nat} {s : List Nat} {x : Nat → Int} (hn : s.Nodup) (hl : ∀ a ∈ s, a < m) (h : ∀ i, i < m → i ∉ s → x i = 0) (j : Nat) : ag A m x j = ls (fun i => x i * A i j) s :=
 sm_list s _ hn hl fun i hi his => by rw [h i hi his]; simp
theorem Par.ag {A : Nat → Nat → Int} {m : Nat} {x e : Nat → Int} (h : Par m x e) (j : Nat) : ag A m x j * Go.Proofs.Ytpnfhcnnodolbaa.Game.sm m e = ag A m e j * Go.Proofs.Ytpnfhcnnodolbaa.Game.sm m x := by
 unfold Go.Proofs.Ytpnfhcnnodolbaa.Game.ag
 rw [Int.mul_comm, Int.mul_comm _ (Go.Proofs.Ytpnfhcnnodolbaa.Game.sm m x), ← sm_mul, ← sm_mul]
 exact sm_congr fun k hk => by have := h.sm hk; grind
theorem filt_mem {m : Nat} {x : Nat → Int} {i : Nat} : i ∈ (List.range m).filter (fun i => x i ≠ 0) ↔ i < m ∧ x i ≠ 0 := by simp
theorem sorted_nodup {s : List Nat} (h : s.Pairwise (· < ·)) : s.Nodup := h.imp fun h e => by omega
theorem gd_of {x : List Int} {p : List Int} (hl : x.length = p.length) (hx : ∀ a ∈ x, 0 < a) (hne : ∃ a ∈ p, a ≠ 0)
 (h : ∀ i k, i < p.length → k < p.length → x.getD i 0 * p.getD k 0 = x.getD k 0 * p.getD i 0) : Gd p := by
 refine ⟨hne, ?_⟩
 rintro ⟨⟨a, ha, na⟩, b, hb, pb⟩
 obtain ⟨i, hi, rfl⟩ := List.getElem_of_mem ha
 obtain ⟨k, hk, rfl⟩ := List.getElem_of_mem hb
 have := h i k hi hk
 simp only [List.getD_eq_getElem?_getD, List.getElem?_eq_getElem hi, List.getElem?_eq_getElem hk, List.getElem?_eq_getElem (show i < x.length by omega), List.getElem?_eq_getElem (show k < x.length by omega), Option.getD_some] at this
 have h1 := hx _ (List.getElem_mem (show i < x.length by omega))
 have h2 := hx _ (List.getElem_mem (show k < x.length by omega))
 have h3 := Int.mul_pos h1 pb
 have h4 := Int.mul_neg_of_pos_of_neg h2 na
 omega
theorem range_sorted (m : Nat) : (List.range m).Pairwise (· < ·) := List.pairwise_lt_range
theorem ag_neg (A : Nat → Nat → Int) (m : Nat) (x : Nat → Int) (j : Nat) : ag A m (fun i => - x i) j = - ag A m x j := by
 unfold ag
 rw [← sm_neg]
 exact sm_congr fun i _ => by rw [Int.neg_mul]
def Al (A : Nat → Nat → Int) (m n : Nat) (x : Nat → Int) : Prop := ∀ j, j < n → 0 ≤ ag A m x j
theorem moveA {A : Nat → Nat → Int} {m n : Nat} {x z : Nat → Int} (hx : Pl m x) (hz : sm m z = 0) (hne : ∃ i, i < m ∧ z i ≠ 0) (hs : ∀ i, i < m → x i = 0 → z i = 0)
 (hN : Al A m n x) (hT : ∀ j, j < n → ag A m x j = 0 → ag A m z j = 0) :
 ∃ P Q : Int, 0 < P ∧ 0 < Q ∧ Pl m (fun i => Q * x i + P * z i) ∧ sm m (fun i => Q * x i + P * z i) = Q * sm m x ∧ Al A m n (fun i => Q * x i + P * z i) ∧
  (∀ j, j < n → ag A m x j = 0 → ag A m (fun i => Q * x i + P * z i) j = 0) ∧
  ((∃ i, i < m ∧ x i ≠ 0 ∧ Q * x i + P * z i = 0) ∨ (∃ j, j < n ∧ ag A m x j ≠ 0 ∧ ag A m (fun i => Q * x i + P * z i) j = 0)) := by
 obtain ⟨i0, hi0, hn0⟩ := sm_mixed hz hne
 let p : Nat → Int := fun k => if k < m then x k else ag A m x (k - m)
 let q : Nat → Int := fun k => if k < m then - z k else - ag A m z (k - m)
 have hB : ∀ i, i < m + n → 0 < q i → 0 < p i := by
  intro i hi hq
  by_cases g : i < m
  ·simp only [p, q, if_pos g] at hq ⊢
   have := hx.nn i g
   have := hs i g
   omega
  ·simp only [p, q, if_neg g] at hq ⊢
   have := hN (i - m) (by omega)
   have := hT (i - m) (by omega)
   omega
 obtain ⟨k, hk, hqk, hm⟩ := min_ratio (fun k => 0 < q k) p q (m + n) (fun _ _ h => h) ⟨i0, by omega, by simp only [q, if_pos hi0]; omega⟩
 have hP := hB k hk hqk
 have hnn : ∀ i, i < m → 0 ≤ q k * x i + p k * z i := by
  intro i hi
  by_cases g : z i < 0
  ·have := hm i (by omega) (by simp only [q, if_pos hi]; omega)
   have e1 : q i = - z i := if_pos hi
   have e2 : p i = x i := if_pos hi
   rw [e1, e2] at this
   grind
  ·have h1 := Int.mul_nonneg (Int.le_of_lt hqk) (hx.nn i hi)
   have h2 := Int.mul_nonneg (Int.le_of_lt hP) (Int.not_lt.1 g)
   omega
 have hsm : sm m (fun i => q k * x i + p k * z i) = q k * sm m x := by rw [sm_lin, hz]; omega
 have hge : ∀ j, j < n → 0 ≤ ag A m (fun i => q k * x i + p k * z i) j := by
  intro j hj
  rw [ag_lin]
  by_cases g : ag A m z j < 0
  ·have e0 : ¬ m + j < m := by omega
   have e1 : q (m + j) = - ag A m z j := by simp only [q, if_neg e0, Nat.add_sub_cancel_left]
   have e2 : p (m + j) = ag A m x j := by simp only [p, if_neg e0, Nat.add_sub_cancel_left]
   have := hm (m + j) (by omega) (by rw [e1]; omega)
   rw [e1, e2] at this
   grind
  ·have h1 := Int.mul_nonneg (Int.le_of_lt hqk) (hN j hj)
   have h2 := Int.mul_nonneg (Int.le_of_lt hP) (Int.not_lt.1 g)
   omega
 have heq : ∀ j, j < n → ag A m x j = 0 → ag A m (fun i => q k * x i + p k * z i) j = 0 := by
  intro j hj e
  rw [ag_lin, e, hT j hj e]; omega
 refine ⟨p k, q k, hP, hqk, ⟨hnn, ?_⟩, hsm, hge, heq, ?_⟩
 ·rw [hsm]; exact Int.mul_pos hqk hx.ps
 ·by_cases g : k < m
  ·have e1 : q k = - z k := if_pos g
   have e2 : p k = x k := if_pos g
   refine .inl ⟨k, g, by omega, ?_⟩
   rw [e1, e2]; grind
  ·have e1 : q k = - ag A m z (k - m) := if_neg g
   have e2 : p k = ag A m x (k - m) := if_neg g
   refine .inr ⟨k - m, by omega, by omega, ?_⟩
   rw [ag_lin, e1, e2]; grind
def WayA (A : Nat → Nat → Int) (m n : Nat) (x : Nat → Int) : Prop :=
 ∃ z, sm m z = 0 ∧ (∃ i, i < m ∧ z i ≠ 0) ∧ (∀ i, i < m → x i = 0 → z i = 0) ∧ ∀ j, j < n → ag A m x j = 0 → ag A m z j = 0
def muA (A : Nat → Nat → Int) (m n : Nat) (x : Nat → Int) : Nat := cn m (fun i => x i ≠ 0) + cn n (fun j => ag A m x j ≠ 0)
def co (c : Nat → Int) (m : Nat) (x : Nat → Int) : Int := sm m fun i => x i * c i
theorem co_lin (c : Nat → Int) (m : Nat) (x z : Nat → Int) (P Q : Int) : co c m (fun i => Q * x i + P * z i) = Q * co c m x + P * co c m z := ag_lin (fun i _ => c i) m x z P Q 0
theorem stuck_le {A : Nat → Nat → Int} {m n : Nat} (c : Nat → Int) : ∀ k x, muA A m n x = k → Pl m x → Al A m n x → ∃ y, Pl m y ∧ Al A m n y ∧ ¬ WayA A m n y ∧ co c m y * sm m x ≤ co c m x * sm m y := by
 intro k
 induction k using Nat.strongRecOn with
 | ind k ih =>
  intro x hmu hx hN
  by_cases hw : WayA A m n x
  ·obtain ⟨z0, hz, hne, hs, hT⟩ := hw
   obtain ⟨z, hz, hne, hs, hT, hc⟩ : ∃ z, sm m z = 0 ∧ (∃ i, i < m ∧ z i ≠ 0) ∧ (∀ i, i < m → x i = 0 → z i = 0) ∧ (∀ j, j < n → ag A m x j = 0 → ag A m z j = 0) ∧ co c m z ≤ 0 := by
    by_cases g : co c m z0 ≤ 0
    ·exact ⟨z0, hz, hne, hs, hT, g⟩
    ·refine ⟨fun i => - z0 i, by rw [sm_neg, hz]; rfl, ?_, fun i hi h => by dsimp only; rw [hs i hi h]; rfl, fun j hj h => by rw [ag_neg, hT j hj h]; rfl, ?_⟩
     ·obtain ⟨i, hi, h⟩ := hne; exact ⟨i, hi, by dsimp only; omega⟩
     ·have e : co c m (fun i => - z0 i) = - co c m z0 := ag_neg (fun i _ => c i) m z0 0
      omega
   obtain ⟨P, Q, hP, hQ, hy, hys, hyA, hyt, hch⟩ := moveA hx hz hne hs hN hT
   have hlt : muA A m n (fun i => Q * x i + P * z i) < k := by
    rw [← hmu]
    unfold muA
    dsimp only
    have h1 : ∀ i, i < m → decide (Q * x i + P * z i ≠ 0) = true → decide (x i ≠ 0) = true := fun i hi h => by
     simp only [decide_eq_true_eq] at h ⊢
     intro e; rw [e, hs i hi e] at h; simp at h
    have h2 : ∀ j, j < n → decide (ag A m (fun i => Q * x i + P * z i) j ≠ 0) = true → decide (ag A m x j ≠ 0) = true := fun j hj h => by
     simp only [decide_eq_true_eq] at h ⊢
     exact fun e => h (hyt j hj e)
    rcases hch with ⟨i, hi, g1, g2⟩ | ⟨j, hj, g1, g2⟩
    ·have a1 := cn_lt h1 hi (by simp [g2]) (by simp [g1])
     have a2 := cn_le h2
     omega
    ·have a1 := cn_le h1
     have a2 := cn_lt h2 hj (by simp [g2]) (by simp [g1])
     omega
   obtain ⟨y, y1, y2, y3, y4⟩ := ih _ hlt _ rfl hy hyA
   refine ⟨y, y1, y2, y3, ?_⟩
   rw [hys, co_lin] at y4
   have h5 : co c m y * sm m x * Q ≤ co c m x * sm m y * Q := by
    have h6 : P * co c m z * sm m y ≤ 0 := by
     have := Int.mul_nonneg (Int.mul_nonneg (Int.le_of_lt hP) (show 0 ≤ - co c m z by omega)) (Int.le_of_lt y1.ps)
     have e : P * -co c m z * sm m y = - (P * co c m z * sm m y) := by grind
     omega
    have e1 : co c m y * (Q * sm m x) = co c m y * sm m x * Q := by grind
    have e2 : (Q * co c m x + P * co c m z) * sm m y = co c m x * sm m y * Q + P * co c m z * sm m y := by grind
    rw [e1, e2] at y4
    omega
   exact Int.le_of_mul_le_mul_right h5 hQ
  ·exact ⟨x, hx, hN, hw, Int.le_refl _⟩
theorem put_abA : ∀ (s : List Nat) (p : List Int) (k : Nat), put s (p.map ab) k = ab (put s p k) := by
 intro s
 induction s with
 | nil => intro p k; simp [put, ab]
 | cons a s ih =>
  intro p k
  cases p with
  | nil => simp [put, ab]
  | cons b p =>
   simp only [List.map_cons, put]
   split
   ·rfl
   ·exact ih p k
theorem par_put {m : Nat} {x : Nat → Int} {s : List Nat} {p : List Int} (hx : Pl m x) (hs : ∀ i, i < m → (i ∈ s ↔ x i ≠ 0))
 (h : ∀ i k, i ∈ s → k ∈ s → x i * put s p k = x k * put s p i) : Par m x (put s (p.map ab)) := by
 intro i k hi hk
 rw [put_abA, put_abA]
 by_cases gi : i ∈ s
 ·by_cases gk : k ∈ s
  ·have h1 := hx.nn i hi
   have h2 := hx.nn k hk
   have h3 := (hs i hi).1 gi
   have h4 := (hs k hk).1 gk
   exact ab_par (by omega) (by omega) (h i k gi gk)
  ·have h4 : x k = 0 := Classical.byContradiction fun e => gk ((hs k hk).2 e)
   rw [h4, put_zero s _ k gk]; simp [ab]
 ·have h4 : x i = 0 := Classical.byContradiction fun e => gi ((hs i hi).2 e)
  rw [h4, put_zero s _ i gi]; simp [ab]
theorem pl_put {m : Nat} {s : List Nat} {p : List Int} {r : Nat} (hr : r < m) (hne : put s p r ≠ 0) : Pl m (put s (p.map ab)) := by
 have hnn : ∀ i, i < m → 0 ≤ put s (p.map ab) i := fun i _ => by rw [put_abA]; exact ab_nonneg _
 exact ⟨hnn, sm_pos hnn hr (by rw [put_abA]; exact ab_pos hne)⟩
def eqA (A : Nat → Nat → Int) (m : Nat) (x : Nat → Int) (j a : Nat) : Int := if j = 0 then 1 else if ag A m x (j - 1) = 0 then A a (j - 1) else 0
theorem way_of {A : Nat → Nat → Int} {m : Nat} {x : Nat → Int} {L : List Nat} {p : List Int} (hn : L.Nodup) (hl : ∀ a ∈ L, a < m) (hx : ∀ a ∈ L, x a ≠ 0) (hne : ∃ i, i ∈ L ∧ put L p i ≠ 0)
 (h : ∀ j, j < 3 → ls (fun i => put L p i * eqA A m x j i) L = 0) : WayA A m 2 x := by
 obtain ⟨r, hr, hr0⟩ := hne
 refine ⟨put L p, ?_, ⟨r, hl r hr, hr0⟩, fun i hi h0 => put_zero L p i fun hm => hx i hm h0, fun j hj ht => ?_⟩
 ·have h0 := h 0 (by omega)
  rw [sm_list L (put L p) hn hl fun i _ hi => put_zero L p i hi]
  rw [← h0]
  exact ls_congr L fun i _ => by unfold eqA; simp
 ·have h0 := h (j + 1) (by omega)
  rw [ag_list hn hl fun i _ hi => put_zero L p i hi, ← h0]
  exact ls_congr L fun i _ => by unfold eqA; rw [if_neg (by omega), Nat.add_sub_cancel, if_pos ht]
def EdgeA (A : Nat → Nat → Int) (m : Nat) (e : Nat → Int) : Prop :=
 (∃ a, a < m ∧ e = put [a] ([1].map ab)) ∨
 (∃ a b j, a < b ∧ b < m ∧ j < 2 ∧ Gd [A b j, - A a j] ∧ e = put [a, b] ([A b j, - A a j].map ab)) ∨
 (∃ a b c, a < b ∧ b < c ∧ c < m ∧ Gd [A b 0 * A c 1 - A b 1 * A c 0, A c 0 * A a 1 - A c 1 * A a 0, A a 0 * A b 1 - A a 1 * A b 0] ∧
  e = put [a, b, c] ([A b 0 * A c 1 - A b 1 * A c 0, A c 0 * A a 1 - A c 1 * A a 0, A a 0 * A b 1 - A a 1 * A b 0].map ab))
theorem edge1 {A : Nat → Nat → Int} {m : Nat} {x : Nat → Int} (hx : Pl m x) {a : Nat} (ha : a < m) (hs : ∀ i, i < m → (i ∈ [a] ↔ x i ≠ 0)) : ∃ e, EdgeA A m e ∧ Pl m e ∧ Par m x e := by
 refine ⟨_, .inl ⟨a, ha, rfl⟩, pl_put ha (by simp [put]), par_put hx hs fun i k hi hk => ?_⟩
 simp at hi hk; subst hi; subst hk; rfl
theorem edge2 {A : Nat → Nat → Int} {m : Nat} {x : Nat → Int} (hx : Pl m x) {a b : Nat} (ha : a < m) (hb : b < m) (hab : a < b) (hs : ∀ i, i < m → (i ∈ [a, b] ↔ x i ≠ 0)) (hw : ¬ WayA A m 2 x) : ∃ e, EdgeA A m e ∧ Pl m e ∧ Par m x e := by
 have hxa : x a ≠ 0 := (hs a ha).1 (by simp)
 have hxb : x b ≠ 0 := (hs b hb).1 (by simp)
 have pa := hx.nn a ha
 have pb := hx.nn b hb
 have hz : ∀ i, i < m → i ∉ [a, b] → x i = 0 := fun i hi h => Classical.byContradiction fun e => h ((hs i hi).2 e)
 have hnd : [a, b].Nodup := sorted_nodup (by simp; omega)
 have hlm : ∀ i ∈ [a, b], i < m := by simp; omega
 have hba : ¬ b = a := by omega
 have htight : ∃ j, j < 2 ∧ ag A m x j = 0 ∧ (A a j ≠ 0 ∨ A b j ≠ 0) := by
  refine Classical.byContradiction fun hno => hw ?_
  have h0 : ∀ j, j < 2 → ag A m x j = 0 → A a j = 0 ∧ A b j = 0 := fun j hj ht => by
   refine ⟨Classical.byContradiction fun e => hno ⟨j, hj, ht, .inl e⟩, Classical.byContradiction fun e => hno ⟨j, hj, ht, .inr e⟩⟩
  refine way_of (L := [a, b]) (p := [1, -1]) hnd hlm (by simp; exact ⟨hxa, hxb⟩) ⟨a, by simp, by simp [put]⟩ fun j hj => ?_
  simp only [ls, put, if_true, if_neg hba, eqA]
  by_cases e : j = 0
  ·subst e; simp
  ·rw [if_neg e]
   split
   ·rename_i ht
    obtain ⟨g1, g2⟩ := h0 (j - 1) (by omega) ht
    rw [g1, g2]; simp
   ·simp
 obtain ⟨j, hj, ht, hne⟩ := htight
 have k1 : x a * A a j + x b * A b j = 0 := by
  have h1 := ag_list (A := A) hnd hlm hz j
  rw [ht] at h1
  simp only [ls] at h1
  omega
 have hn2 : A b j ≠ 0 ∨ - A a j ≠ 0 := by omega
 refine ⟨_, .inr (.inl ⟨a, b, j, hab, hb, hj, ?_, rfl⟩), ?_, par_put hx hs fun i k hi hk => ?_⟩
 ·refine gd_of (x := [x a, x b]) rfl (by simp; omega) ?_ fun i k hi hk => ?_
  ·rcases hn2 with h | h
   ·exact ⟨_, by simp, h⟩
   ·exact ⟨- A a j, by simp, h⟩
  ·simp only [List.length_cons, List.length_nil] at hi hk
   obtain rfl | rfl : i = 0 ∨ i = 1 := by omega
   all_goals obtain rfl | rfl : k = 0 ∨ k = 1 := by omega
   all_goals simp only [List.getD_cons_zero, List.getD_cons_succ]
   all_goals grind
 ·rcases hn2 with h | h
  ·exact pl_put ha (by simpa [put] using h)
  ·exact pl_put hb (by simp only [put, if_true, if_neg hba]; exact h)
 ·simp only [List.mem_cons, List.not_mem_nil, or_false] at hi hk
  rcases hi with rfl | rfl <;> rcases hk with rfl | rfl <;> simp only [put, if_true, if_neg hba] <;> grind
theorem det_any (f g h : Nat → Int) (e : f 0 * (g 1 * h 2 - h 1 * g 2) - g 0 * (f 1 * h 2 - h 1 * f 2) + h 0 * (f 1 * g 2 - g 1 * f 2) = 0) (i j k : Nat) (hi : i < 3) (hj : j < 3) (hk : k < 3) :
 f i * (g j * h k - g k * h j) - f j * (g i * h k - g k * h i) + f k * (g i * h j - g j * h i) = 0 := by
 obtain rfl | rfl | rfl : i = 0 ∨ i = 1 ∨ i = 2 := by omega
 all_goals obtain rfl | rfl | rfl : j = 0 ∨ j = 1 ∨ j = 2 := by omega
 all_goals obtain rfl | rfl | rfl : k = 0 ∨ k = 1 ∨ k = 2 := by omega
 all_goals grind
def detA (A : Nat → Nat → Int) (m : Nat) (x : Nat → Int) (a b c : Nat) : Int :=
 eqA A m x 0 a * (eqA A m x 1 b * eqA A m x 2 c - eqA A m x 1 c * eqA A m x 2 b) - eqA A m x 0 b * (eqA A m x 1 a * eqA A m x 2 c - eqA A m x 1 c * eqA A m x 2 a) + eqA A m x 0 c * (eqA A m x 1 a * eqA A m x 2 b - eqA A m x 1 b * eqA A m x 2 a)
theorem det_zero {A : Nat → Nat → Int} {m : Nat} {x : Nat → Int} {a b c : Nat} (ha : a < m) (hb : b < m) (hc : c < m) (hab : a < b) (hbc : b < c) (hxa : x a ≠ 0) (hxb : x b ≠ 0) (hxc : x c ≠ 0) (hw : ¬ WayA A m 2 x) : detA A m x a b c ≠ 0 := by
 intro h0
 unfold detA at h0
 have hba : ¬ b = a := by omega
 have hca : ¬ c = a := by omega
 have hcb : ¬ c = b := by omega
 obtain ⟨u, v, w, hne, h⟩ := dep3 (fun j => j < 3) (fun j => eqA A m x j a) (fun j => eqA A m x j b) (fun j => eqA A m x j c) (fun i j k hi hj hk => det_any (fun j => eqA A m x j a) (fun j => eqA A m x j b) (fun j => eqA A m x j c) h0 i j k hi hj hk)
 refine hw (way_of (L := [a, b, c]) (p := [u, v, w]) (sorted_nodup (by simp; omega)) (by simp; omega) (by simp; exact ⟨hxa, hxb, hxc⟩) ?_ fun j hj => ?_)
 ·rcases hne with h | h | h
  ·exact ⟨a, by simp, by simpa [put] using h⟩
  ·exact ⟨b, by simp, by simp only [put, if_true, if_neg hba]; exact h⟩
  ·exact ⟨c, by simp, by simp only [put, if_true, if_neg hca, if_neg hcb]; exact h⟩
 ·have := h j hj
  simp only [ls, put, if_true, if_neg hba, if_neg hca, if_neg hcb]
  omega
theorem edge3 {A : Nat → Nat → Int} {m : Nat} {x : Nat → Int} (hx : Pl m x) {a b c : Nat} (ha : a < m) (hb : b < m) (hc : c < m) (hab : a < b) (hbc : b < c) (hs : ∀ i, i < m → (i ∈ [a, b, c] ↔ x i ≠ 0)) (hw : ¬ WayA A m 2 x) : ∃ e, EdgeA A m e ∧ Pl m e ∧ Par m x e := by
 have hxa : x a ≠ 0 := (hs a ha).1 (by simp)
 have hxb : x b ≠ 0 := (hs b hb).1 (by simp)
 have hxc : x c ≠ 0 := (hs c hc).1 (by simp)
 have pa := hx.nn a ha
 have pb := hx.nn b hb
 have pc_ := hx.nn c hc
 have hz : ∀ i, i < m → i ∉ [a, b, c] → x i = 0 := fun i hi h => Classical.byContradiction fun e => h ((hs i hi).2 e)
 have hnd : [a, b, c].Nodup := sorted_nodup (by simp; omega)
 have hlm : ∀ i ∈ [a, b, c], i < m := by simp; omega
 have hba : ¬ b = a := by omega
 have hca : ¬ c = a := by omega
 have hcb : ¬ c = b := by omega
 have hd := det_zero (A := A) ha hb hc hab hbc hxa hxb hxc hw
 have t0 : ag A m x 0 = 0 := Classical.byContradiction fun e => hd (by
  have g : ∀ r, eqA A m x 1 r = 0 := fun r => by unfold eqA; rw [if_neg (by omega), if_neg e]
  unfold detA; rw [g, g, g]; simp)
 have t1 : ag A m x 1 = 0 := Classical.byContradiction fun e => hd (by
  have g : ∀ r, eqA A m x 2 r = 0 := fun r => by unfold eqA; rw [if_neg (by omega), if_neg e]
  unfold detA; rw [g, g, g]; simp)
 have g0 : ∀ r, eqA A m x 0 r = 1 := fun r => if_pos rfl
 have g1 : ∀ r, eqA A m x 1 r = A r 0 := fun r => by unfold eqA; rw [if_neg (by omega)]; exact if_pos t0
 have g2 : ∀ r, eqA A m x 2 r = A r 1 := fun r => by unfold eqA; rw [if_neg (by omega)]; exact if_pos t1
 unfold detA at hd
 rw [g0, g0, g0, g1, g1, g1, g2, g2, g2] at hd
 have k0 : x a * A a 0 + x b * A b 0 + x c * A c 0 = 0 := by
  have h1 := ag_list (A := A) hnd hlm hz 0
  rw [t0] at h1
  simp only [ls] at h1
  omega
 have k1 : x a * A a 1 + x b * A b 1 + x c * A c 1 = 0 := by
  have h1 := ag_list (A := A) hnd hlm hz 1
  rw [t1] at h1
  simp only [ls] at h1
  omega
 have q1 : x a * (A c 0 * A a 1 - A c 1 * A a 0) = x b * (A b 0 * A c 1 - A b 1 * A c 0) := by grind
 have q2 : x a * (A a 0 * A b 1 - A a 1 * A b 0) = x c * (A b 0 * A c 1 - A b 1 * A c 0) := by grind
 have q3 : x b * (A a 0 * A b 1 - A a 1 * A b 0) = x c * (A c 0 * A a 1 - A c 1 * A a 0) := by grind
 have hn3 : A b 0 * A c 1 - A b 1 * A c 0 ≠ 0 ∨ A c 0 * A a 1 - A c 1 * A a 0 ≠ 0 ∨ A a 0 * A b 1 - A a 1 * A b 0 ≠ 0 := by
  refine Classical.byContradiction fun e => hd ?_
  have e1 : A b 0 * A c 1 - A b 1 * A c 0 = 0 := Classical.byContradiction fun h => e (.inl h)
  have e2 : A c 0 * A a 1 - A c 1 * A a 0 = 0 := Classical.byContradiction fun h => e (.inr (.inl h))
  have e3 : A a 0 * A b 1 - A a 1 * A b 0 = 0 := Classical.byContradiction fun h => e (.inr (.inr h))
  grind
 generalize hwa : A b 0 * A c 1 - A b 1 * A c 0 = wa at *
 generalize hwb : A c 0 * A a 1 - A c 1 * A a 0 = wb at *
 generalize hwc : A a 0 * A b 1 - A a 1 * A b 0 = wc at *
 refine ⟨put [a, b, c] ([wa, wb, wc].map ab), .inr (.inr ⟨a, b, c, hab, hbc, hc, ?_, by rw [hwa, hwb, hwc]⟩), ?_, par_put hx hs fun i k hi hk => ?_⟩
 ·rw [hwa, hwb, hwc]
  refine gd_of (x := [x a, x b, x c]) rfl (by simp; omega) ?_ fun i k hi hk => ?_
  ·rcases hn3 with h | h | h
   ·exact ⟨wa, by simp, h⟩
   ·exact ⟨wb, by simp, h⟩
   ·exact ⟨wc, by simp, h⟩
  ·simp only [List.length_cons, List.length_nil] at hi hk
   obtain rfl | rfl | rfl : i = 0 ∨ i = 1 ∨ i = 2 := by omega
   all_goals obtain rfl | rfl | rfl : k = 0 ∨ k = 1 ∨ k = 2 := by omega
   all_goals simp only [List.getD_cons_zero, List.getD_cons_succ]
   all_goals first | rfl | omega
 ·rcases hn3 with h | h | h
  ·exact pl_put ha (by simpa [put] using h)
  ·exact pl_put hb (by simp only [put, if_true, if_neg hba]; exact h)
  ·exact pl_put hc (by simp only [put, if_true, if_neg hca, if_neg hcb]; exact h)
 ·simp only [List.mem_cons, List.not_mem_nil, or_false] at hi hk
  rcases hi with rfl | rfl | rfl <;> rcases hk with rfl | rfl | rfl <;> simp only [put, if_true, if_neg hba, if_neg hca, if_neg hcb] <;> first | rfl | omega
theorem way4 {A : Nat → Nat → Int} {m : Nat} {x : Nat → Int} {a b c d : Nat} (ha : a < m) (hb : b < m) (hc : c < m) (hd : d < m) (hab : a < b) (hbc : b < c) (hcd : c < d) (hxa : x a ≠ 0) (hxb : x b ≠ 0) (hxc : x c ≠ 0) (hxd : x d ≠ 0) : WayA A m 2 x := by
 refine Classical.byContradiction fun hw => ?_
 have h1 := det_zero (A := A) ha hb hc hab hbc hxa hxb hxc hw
 have hba : ¬ b = a := by omega
 have hca : ¬ c = a := by omega
 have hcb : ¬ c = b := by omega
 have hda : ¬ d = a := by omega
 have hdb : ¬ d = b := by omega
 have hdc : ¬ d = c := by omega
 refine hw (way_of (L := [a, b, c, d]) (p := [detA A m x b c d, - detA A m x a c d, detA A m x a b d, - detA A m x a b c]) (sorted_nodup (by simp; omega)) (by simp; omega) (by simp; exact ⟨hxa, hxb, hxc, hxd⟩) ⟨d, by simp, by simp only [put, if_true, if_neg hda, if_neg hdb, if_neg hdc]; omega⟩ fun j hj => ?_)
 simp only [ls, put, if_true, if_neg hba, if_neg hca, if_neg hcb, if_neg hda, if_neg hdb, if_neg hdc]
 unfold detA
 obtain rfl | rfl | rfl : j = 0 ∨ j = 1 ∨ j = 2 := by omega
 all_goals grind
theorem stuck_edge {A : Nat → Nat → Int} {m : Nat} {x : Nat → Int} (hx : Pl m x) (hw : ¬ WayA A m 2 x) : ∃ e, EdgeA A m e ∧ Pl m e ∧ Par m x e := by
 have hsm : ∀ i, i < m → (i ∈ (List.range m).filter (fun i => x i ≠ 0) ↔ x i ≠ 0) := fun i hi => by rw [filt_mem]; exact ⟨fun h => h.2, fun h => ⟨hi, h⟩⟩
 have hml : ∀ i, i ∈ (List.range m).filter (fun i => x i ≠ 0) → i < m ∧ x i ≠ 0 := fun i h => filt_mem.1 h
 have hso : ((List.range m).filter (fun i => x i ≠ 0)).Pairwise (· < ·) := List.Pairwise.filter _ (range_sorted m)
 generalize (List.range m).filter (fun i => x i ≠ 0) = s at *
 match s, hsm, hml, hso with
 | [], hsm, hml, hso =>
  exfalso
  have : sm m x = 0 := sm_zero fun i hi => Classical.byContradiction fun e => by have := (hsm i hi).2 e; simp at this
  have := hx.ps
  omega
 | [a], hsm, hml, hso => exact edge1 hx (hml a (by simp)).1 hsm
 | [a, b], hsm, hml, hso => exact edge2 hx (hml a (by simp)).1 (hml b (by simp)).1 (by simp at hso; omega) hsm hw
 | [a, b, c], hsm, hml, hso => exact edge3 hx (hml a (by simp)).1 (hml b (by simp)).1 (hml c (by simp)).1 (by simp at hso; omega) (by simp at hso; omega) hsm hw
 | a :: b :: c :: d :: r, hsm, hml, hso =>
  refine absurd (way4 (a := a) (b := b) (c := c) (d := d) (hml a (by simp)).1 (hml b (by simp)).1 (hml c (by simp)).1 (hml d (by simp)).1 ?_ ?_ ?_ (hml a (by simp)).2 (hml b (by simp)).2 (hml c (by simp)).2 (hml d (by simp)).2) hw
  all_goals (simp only [List.pairwise_cons, List.mem_cons] at hso; obtain ⟨h1, h2, h3, -⟩ := hso)
  ·exact h1 b (.inl rfl)
  ·exact h2 c (.inl rfl)
  ·exact h3 d (.inl rfl)
theorem edge_le {A : Nat → Nat → Int} {m : Nat} (c : Nat → Int) {x : Nat → Int} (hx : Pl m x) (hN : Al A m 2 x) : ∃ e, EdgeA A m e ∧ Pl m e ∧ Al A m 2 e ∧ co c m e * sm m x ≤ co c m x * sm m e := by
 obtain ⟨y, hy, hyA, hw, hle⟩ := stuck_le (n := 2) c _ x rfl hx hN
 obtain ⟨e, he, hp, hpar⟩ := stuck_edge hy hw
 have hc : co c m y * sm m e = co c m e * sm m y := hpar.ag (A := fun i _ => c i) 0
 refine ⟨e, he, hp, fun j hj => ?_, ?_⟩
 ·have h1 := hpar.ag (A := A) j
  have h2 := Int.mul_nonneg (hyA j hj) (Int.le_of_lt hp.ps)
  rw [h1] at h2
  exact Int.nonneg_of_mul_nonneg_left h2 hy.ps
 ·have h3 := Int.mul_le_mul_of_nonneg_right hle (Int.le_of_lt hp.ps)
  have e1 : co c m y * sm m x * sm m e = co c m e * sm m x * sm m y := by
   have : co c m y * sm m x * sm m e = co c m y * sm m e * sm m x := by grind
   rw [this, hc]; grind
  have e2 : co c m x * sm m y * sm m e = co c m x * sm m e * sm m y := by grind
  rw [e1, e2] at h3
  exact Int.le_of_mul_le_mul_right h3 hy.ps
end Go.Proofs.Ytpnfhcnnodolbaa.Game
namespace Go.Proofs.Ytpnfhcnnodolbaa
open Go Go.RowKit
def C2 (w : World) (b : Nat) (x y : Int) : Prop := w.cell? ⟨b, 0, none⟩ = some (.int .i64 x) ∧ w.cell? ⟨b, 1, none⟩ = some (.int .i64 y)
def C4 (w : World) (b : Nat) (x y z t : Int) : Prop := w.cell? ⟨b, 0, none⟩ = some (.int .i64 x) ∧ w.cell? ⟨b, 1, none⟩ = some (.int .i64 y) ∧ w.cell? ⟨b, 2, none⟩ = some (.int .i64 z) ∧ w.cell? ⟨b, 3, none⟩ = some (.int .i64 t)
def C5 (w : World) (b : Nat) (x y z t r : Int) : Prop := w.cell? ⟨b, 0, none⟩ = some (.int .i64 x) ∧ w.cell? ⟨b, 1, none⟩ = some (.int .i64 y) ∧ w.cell? ⟨b, 2, none⟩ = some (.int .i64 z) ∧ w.cell? ⟨b, 3, none⟩ = some (.int .i64 t) ∧ w.cell? ⟨b, 4, none⟩ = some (.int .i64 r)
theorem C2.ext {w w' : World} {b : Nat} {x y : Int} (h : C2 w b x y) (k : Ext w w') : C2 w' b x y := ⟨k.cell h.1, k.cell h.2⟩
theorem C4.ext {w w' : World} {b : Nat} {x y z t : Int} (h : C4 w b x y z t) (k : Ext w w') : C4 w' b x y z t := ⟨k.cell h.1, k.cell h.2.1, k.cell h.2.2.1, k.cell h.2.2.2⟩
theorem C5.ext {w w' : World} {b : Nat} {x y z t r : Int} (h : C5 w b x y z t r) (k : Ext w w') : C5 w' b x y z t r := ⟨k.cell h.1, k.cell h.2.1, k.cell h.2.2.1, k.cell h.2.2.2.1, k.cell h.2.2.2.2⟩
end Go.Proofs.Ytpnfhcnnodolbaa
