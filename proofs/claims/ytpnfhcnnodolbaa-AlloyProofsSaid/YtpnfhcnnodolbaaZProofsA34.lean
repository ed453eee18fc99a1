/- Texts of one proof, laid together: Mem, Game, Edg, Far, Dua, Gl. -/
import Derived.Test.YtpnfhcnnodolbaaZY2
import Derived.WalkKit
import Derived.Below
import Derived.Deep.Draws
set_option linter.unusedVariables false
set_option linter.unusedSimpArgs false
set_option linter.unusedSectionVars false
set_option linter.unnecessarySimpa false
namespace Go.Proofs.Ytpnfhcnnodolbaa
open Go Go.RowKit
theorem nth_zero (x : Int) (l : List Int) : nth (x :: l) 0 = x := by simp [nth]
theorem nth_succ (x : Int) (l : List Int) (i : Nat) : nth (x :: l) (i + 1) = nth l i := by simp [nth]
end Go.Proofs.Ytpnfhcnnodolbaa
namespace Go.Proofs.Ytpnfhcnnodolbaa.Game
theorem sm_add (n : Nat) (f g : Nat → Int) : sm n (fun i => f i + g i) = sm n f + sm n g := by
 induction n with
 | zero => rfl
 | succ k ih => simp only [sm]; rw [ih]; omega
theorem sm_mixed {n : Nat} {f : Nat → Int} (h : sm n f = 0) (hne : ∃ i, i < n ∧ f i ≠ 0) : ∃ i, i < n ∧ f i < 0 := by
 refine Classical.byContradiction fun hn => ?_
 have hnn : ∀ i, i < n → 0 ≤ f i := fun i hi => by
  refine Int.not_lt.1 fun hl => hn ⟨i, hi, hl⟩
 obtain ⟨i, hi, h0⟩ := hne
 have := sm_pos hnn hi (by have := hnn i hi; omega)
 omega
def cn : Nat → (Nat → Bool) → Nat
 | 0, _ => 0
 | n + 1, f => cn n f + (if f n then 1 else 0)
theorem cn_le {n : Nat} {f g : Nat → Bool} (h : ∀ i, i < n → f i = true → g i = true) : cn n f ≤ cn n g := by
 induction n with
 | zero => simp [cn]
 | succ k ih =>
  simp only [cn]
  have := ih fun i hi => h i (by omega)
  have := h k (by omega)
  cases hf : f k <;> cases hg : g k <;> simp_all <;> omega
theorem cn_lt {n : Nat} {f g : Nat → Bool} (h : ∀ i, i < n → f i = true → g i = true) {i : Nat} (hi : i < n) (hf : f i = false) (hg : g i = true) : cn n f < cn n g := by
 induction n with
 | zero => omega
 | succ k ih =>
  simp only [cn]
  rcases Nat.lt_or_ge i k with hk | hk
  ·have := ih (fun i hi => h i (by omega)) hk
   have := h k (by omega)
   cases hf : f k <;> cases hg : g k <;> simp_all <;> omega
  ·obtain rfl : i = k := by omega
   have := cn_le (n := i) (f := f) (g := g) fun i hi => h i (by omega)
   rw [hf, hg]; simp; omega
theorem ratio_trans {a b c d e f : Int} (hd : 0 < d) (hb : 0 < b) (hf : 0 < f) (h1 : a * d ≤ c * b) (h2 : c * f ≤ e * d) : a * f ≤ e * b := by
 have h3 : a * d * f ≤ c * b * f := Int.mul_le_mul_of_nonneg_right h1 (by omega)
 have h4 : c * f * b ≤ e * d * b := Int.mul_le_mul_of_nonneg_right h2 (by omega)
 have e1 : a * d * f = (a * f) * d := by grind
 have e2 : c * b * f = c * f * b := by grind
 have e3 : e * d * b = (e * b) * d := by grind
 rw [e1, e2] at h3
 rw [e3] at h4
 exact Int.le_of_mul_le_mul_right (Int.le_trans h3 h4) hd
theorem min_ratio (B : Nat → Prop) (p q : Nat → Int) : ∀ N, (∀ i, i < N → B i → 0 < q i) → (∃ i, i < N ∧ B i) → ∃ i, i < N ∧ B i ∧ ∀ j, j < N → B j → p i * q j ≤ p j * q i
 | 0, _, h => by obtain ⟨i, hi, _⟩ := h; omega
 | N + 1, hq, h => by
  by_cases hN : ∃ i, i < N ∧ B i
  ·obtain ⟨i, hi, hB, hm⟩ := min_ratio B p q N (fun i hi => hq i (by omega)) hN
   by_cases hb : B N ∧ ¬ (p i * q N ≤ p N * q i)
   ·refine ⟨N, by omega, hb.1, fun j hj hBj => ?_⟩
    rcases Nat.lt_or_ge j N with g | g
    ·exact ratio_trans (hq i (by omega) hB) (hq N (by omega) hb.1) (hq j (by omega) hBj) (by omega) (hm j g hBj)
    ·obtain rfl : j = N := by omega
     exact Int.le_refl _
   ·refine ⟨i, by omega, hB, fun j hj hBj => ?_⟩
    rcases Nat.lt_or_ge j N with g | g
    ·exact hm j g hBj
    ·obtain rfl : j = N := by omega
     exact Classical.byContradiction fun hc => hb ⟨hBj, hc⟩
  ·obtain ⟨i, hi, hB⟩ := h
   obtain rfl : i = N := by
    rcases Nat.lt_or_ge i N with g | g
    ·exact absurd ⟨i, g, hB⟩ hN
    ·omega
   refine ⟨i, by omega, hB, fun j hj hBj => ?_⟩
   rcases Nat.lt_or_ge j i with g | g
   ·exact absurd ⟨j, g, hBj⟩ hN
   ·obtain rfl : j = i := by omega
    exact Int.le_refl _
def ag (A : Nat → Nat → Int) (m : Nat) (x : Nat → Int) (j : Nat) : Int := sm m fun i => x i * A i j
theorem ag_lin (A : Nat → Nat → Int) (m : Nat) (x z : Nat → Int) (P Q : Int) (j : Nat) : ag A m (fun i => Q * x i + P * z i) j = Q * ag A m x j + P * ag A m z j := by
 unfold ag
 rw [← sm_mul, ← sm_mul, ← sm_add]
 exact sm_congr fun i _ => by grind
theorem sm_lin (m : Nat) (x z : Nat → Int) (P Q : Int) : sm m (fun i => Q * x i + P * z i) = Q * sm m x + P * sm m z := by
 rw [← sm_mul, ← sm_mul, ← sm_add]
def ab (p : Int) : Int := if 0 ≤ p then p else -p
theorem ab_nonneg (p : Int) : 0 ≤ ab p := by unfold ab; split <;> omega
theorem ab_pos {p : Int} (h : p ≠ 0) : 0 < ab p := by unfold ab; split <;> omega
theorem ab_par {x y p q : Int} (hx : 0 < x) (hy : 0 < y) (h : x * p = y * q) : x * ab p = y * ab q := by
 unfold ab
 by_cases hp : 0 ≤ p
 ·have h1 : 0 ≤ x * p := Int.mul_nonneg (by omega) hp
  have hq : 0 ≤ q := by
   refine Int.not_lt.1 fun hq => ?_
   have := Int.mul_neg_of_pos_of_neg hy hq
   omega
  rw [if_pos hp, if_pos hq]; exact h
 ·have h1 : x * p < 0 := Int.mul_neg_of_pos_of_neg hx (by omega)
  have hq : ¬ 0 ≤ q := fun hq => by
   have := Int.mul_nonneg (Int.le_of_lt hy) hq
   omega
  rw [if_neg hp, if_neg hq, Int.mul_neg, Int.mul_neg, h]
theorem put_zero : ∀ (s : List Nat) (p : List Int) (r : Nat), r ∉ s → put s p r = 0
 | [], _, _, _ => by simp [put]
 | _ :: _, [], _, _ => by simp [put]
 | a :: s, p :: q, r, h => by
  simp at h
  simp only [put, if_neg h.1]
  exact put_zero s q r h.2
theorem sm_split {m a : Nat} (f : Nat → Int) (h : a < m) : sm m f = f a + sm m fun i => if i = a then 0 else f i := by
 induction m with
 | zero => omega
 | succ k ih =>
  simp only [sm]
  rcases Nat.lt_or_ge a k with g | g
  ·rw [ih g, if_neg (by omega)]; omega
  ·obtain rfl : a = k := by omega
   rw [if_pos rfl, sm_congr (f := fun i => if i = a then 0 else f i) (g := f) (fun i hi => if_neg (by omega))]; omega
theorem ls_congr {f g : Nat → Int} : ∀ s : List Nat, (∀ i ∈ s, f i = g i) → ls f s = ls g s
 | [], _ => rfl
 | a :: s, h => by simp only [ls]; rw [h a (by simp), ls_congr s fun i hi => h i (by simp [hi])]
theorem sm_list {m : Nat} : ∀ (s : List Nat) (f : Nat → Int), s.Nodup → (∀ a ∈ s, a < m) → (∀ i, i < m → i ∉ s → f i = 0) → sm m f = ls f s
 | [], f, _, _, h => sm_zero fun i hi => h i hi (by simp)
 | a :: s, f, hn, hl, h => by
  rw [List.nodup_cons] at hn
  rw [sm_split f (hl a (by simp)), sm_list s _ hn.2 (fun b hb => hl b (by simp [hb]))]
  ·simp only [ls]
   rw [ls_congr s fun i hi => if_neg (show ¬ i = a from fun e => hn.1 (e ▸ hi))]
  ·intro i hi his
   by_cases g : i = a
   ·rw [if_pos g]
   ·rw [if_neg g]; exact h i hi (by simp [g, his])
def Gd (p : List Int) : Prop := (∃ a ∈ p, a ≠ 0) ∧ ¬ ((∃ a ∈ p, a < 0) ∧ ∃ a ∈ p, 0 < a)
theorem dep2 (Q : Nat → Prop) (a b : Nat → Int) (h : ∀ i j, Q i → Q j → a i * b j = a j * b i) : ∃ x y : Int, (x ≠ 0 ∨ y ≠ 0) ∧ ∀ j, Q j → x * a j + y * b j = 0 := by
 by_cases g : ∃ j, Q j ∧ a j ≠ 0
 ·obtain ⟨j, hj, hn⟩ := g
  exact ⟨b j, - a j, .inr (by omega), fun i hi => by have := h i j hi hj; grind⟩
 ·refine ⟨1, 0, .inl (by decide), fun i hi => ?_⟩
  have : a i = 0 := Classical.byContradiction fun hn => g ⟨i, hi, hn⟩
  rw [this]; simp
theorem dep3 (Q : Nat → Prop) (a b c : Nat → Int) (h : ∀ i j k, Q i → Q j → Q k → a i * (b j * c k - b k * c j) - a j * (b i * c k - b k * c i) + a k * (b i * c j - b j * c i) = 0) :
 ∃ x y z : Int, (x ≠ 0 ∨ y ≠ 0 ∨ z ≠ 0) ∧ ∀ j, Q j → x * a j + y * b j + z * c j = 0 := by
 by_cases g : ∃ i j, Q i ∧ Q j ∧ a i * b j ≠ a j * b i
 ·obtain ⟨i, j, hi, hj, hn⟩ := g
  exact ⟨b i * c j - b j * c i, - (a i * c j - a j * c i), a i * b j - a j * b i, .inr (.inr (by omega)), fun k hk => by have := h i j k hi hj hk; grind⟩
 ·obtain ⟨x, y, h1, h2⟩ := dep2 Q a b fun i j hi hj => Classical.byContradiction fun hn => g ⟨i, j, hi, hj, hn⟩
  refine ⟨x, y, 0, ?_, fun j hj => by have := h2 j hj; omega⟩
  rcases h1 with h | h
  ·exact .inl h
  ·exact .inr (.inl h)
theorem ag_list {A : Nat → Nat → Int} {m : Nat} {s : List Nat} {x : Nat → Int} (hn : s.Nodup) (hl : ∀ a ∈ s, a < m) (h : ∀ i, i < m → i ∉ s → x i = 0) (j : Nat) : ag A m x j = ls (fun i => x i * A i j) s :=
 sm_list s _ hn hl fun i hi his => by rw [h i hi his]; simp
theorem Par.ag {A : Nat → Nat → Int} {m : Nat} {x e : Nat → Int} (h : Par m x e) (j : Nat) : ag A m x j * Go.Proofs.Ytpnfhcnnodolbaa.Game.sm m e = ag A m e j * Go.Proofs.Ytpnfhcnnodolbaa.Game.sm m x := by
 unfold Go.Proofs.Ytpnfhcnnodolbaa.Game.ag
 rw [Int.mul_comm, Int.mul_comm _ (Go.Proofs.Ytpnfhcnnodolbaa.Game.sm m x), ← sm_mul, ← sm_mul]
 exact sm_congr fun k hk => by have := h.sm hk; grind
theorem filt_mem {m : Nat} {x : Nat → Int} {i : Nat} : i ∈ (List.range m).filter (fun i => x i ≠ 0) ↔ i < m ∧ x i ≠ 0 := by simp
theorem sorted_nodup {s : List Nat} (h : s.Pairwise (· < ·)) : s.Nodup := h.imp fun h e => by omega
theorem gd_of {x : List Int} {p : List Int} (hl : x.length = p.length) (hx : ∀ a ∈ x, 0 < a) (hne : ∃ a ∈ p, a ≠ 0)
 (h : ∀ i k, i < p.length → k < p.length → x.getD i 0 * p.getD k 0 = x.getD k 0 * p.getD i 0) : Gd p := by
 refine ⟨hne, ?_⟩
 rintro ⟨⟨a, ha, na⟩, b, hb, pb⟩
 obtain ⟨i, hi, rfl⟩ := List.getElem_of_mem ha
 obtain ⟨k, hk, rfl⟩ := List.getElem_of_mem hb
 have := h i k hi hk
 simp only [List.getD_eq_getElem?_getD, List.getElem?_eq_getElem hi, List.getElem?_eq_getElem hk, List.getElem?_eq_getElem (show i < x.length by omega), List.getElem?_eq_getElem (show k < x.length by omega), Option.getD_some] at this
 have h1 := hx _ (List.getElem_mem (show i < x.length by omega))
 have h2 := hx _ (List.getElem_mem (show k < x.length by omega))
 have h3 := Int.mul_pos h1 pb
 have h4 := Int.mul_neg_of_pos_of_neg h2 na
 omega
theorem range_sorted (m : Nat) : (List.range m).Pairwise (· < ·) := List.pairwise_lt_range
theorem ag_neg (A : Nat → Nat → Int) (m : Nat) (x : Nat → Int) (j : Nat) : ag A m (fun i => - x i) j = - ag A m x j := by
 unfold ag
 rw [← sm_neg]
 exact sm_congr fun i _ => by rw [Int.neg_mul]
def Al (A : Nat → Nat → Int) (m n : Nat) (x : Nat → Int) : Prop := ∀ j, j < n → 0 ≤ ag A m x j
theorem moveA {A : Nat → Nat → Int} {m n : Nat} {x z : Nat → Int} (hx : Pl m x) (hz : sm m z = 0) (hne : ∃ i, i < m ∧ z i ≠ 0) (hs : ∀ i, i < m → x i = 0 → z i = 0)
 (hN : Al A m n x) (hT : ∀ j, j < n → ag A m x j = 0 → ag A m z j = 0) :
 ∃ P Q : Int, 0 < P ∧ 0 < Q ∧ Pl m (fun i => Q * x i + P * z i) ∧ sm m (fun i => Q * x i + P * z i) = Q * sm m x ∧ Al A m n (fun i => Q * x i + P * z i) ∧
  (∀ j, j < n → ag A m x j = 0 → ag A m (fun i => Q * x i + P * z i) j = 0) ∧
  ((∃ i, i < m ∧ x i ≠ 0 ∧ Q * x i + P * z i = 0) ∨ (∃ j, j < n ∧ ag A m x j ≠ 0 ∧ ag A m (fun i => Q * x i + P * z i) j = 0)) := by
 obtain ⟨i0, hi0, hn0⟩ := sm_mixed hz hne
 let p : Nat → Int := fun k => if k < m then x k else ag A m x (k - m)
 let q : Nat → Int := fun k => if k < m then - z k else - ag A m z (k - m)
 have hB : ∀ i, i < m + n → 0 < q i → 0 < p i := by
  intro i hi hq
  by_cases g : i < m
  ·simp only [p, q, if_pos g] at hq ⊢
   have := hx.nn i g
   have := hs i g
   omega
  ·simp only [p, q, if_neg g] at hq ⊢
   have := hN (i - m) (by omega)
   have := hT (i - m) (by omega)
   omega
 obtain ⟨k, hk, hqk, hm⟩ := min_ratio (fun k => 0 < q k) p q (m + n) (fun _ _ h => h) ⟨i0, by omega, by simp only [q, if_pos hi0]; omega⟩
 have hP := hB k hk hqk
 have hnn : ∀ i, i < m → 0 ≤ q k * x i + p k * z i := by
  intro i hi
  by_cases g : z i < 0
  ·have := hm i (by omega) (by simp only [q, if_pos hi]; omega)
   have e1 : q i = - z i := if_pos hi
   have e2 : p i = x i := if_pos hi
   rw [e1, e2] at this
   grind
  ·have h1 := Int.mul_nonneg (Int.le_of_lt hqk) (hx.nn i hi)
   have h2 := Int.mul_nonneg (Int.le_of_lt hP) (Int.not_lt.1 g)
   omega
 have hsm : sm m (fun i => q k * x i + p k * z i) = q k * sm m x := by rw [sm_lin, hz]; omega
 have hge : ∀ j, j < n → 0 ≤ ag A m (fun i => q k * x i + p k * z i) j := by
  intro j hj
  rw [ag_lin]
  by_cases g : ag A m z j < 0
  ·have e0 : ¬ m + j < m := by omega
   have e1 : q (m + j) = - ag A m z j := by simp only [q, if_neg e0, Nat.add_sub_cancel_left]
   have e2 : p (m + j) = ag A m x j := by simp only [p, if_neg e0, Nat.add_sub_cancel_left]
   have := hm (m + j) (by omega) (by rw [e1]; omega)
   rw [e1, e2] at this
   grind
  ·have h1 := Int.mul_nonneg (Int.le_of_lt hqk) (hN j hj)
   have h2 := Int.mul_nonneg (Int.le_of_lt hP) (Int.not_lt.1 g)
   omega
 have heq : ∀ j, j < n → ag A m x j = 0 → ag A m (fun i => q k * x i + p k * z i) j = 0 := by
  intro j hj e
  rw [ag_lin, e, hT j hj e]; omega
 refine ⟨p k, q k, hP, hqk, ⟨hnn, ?_⟩, hsm, hge, heq, ?_⟩
 ·rw [hsm]; exact Int.mul_pos hqk hx.ps
 ·by_cases g : k < m
  ·have e1 : q k = - z k := if_pos g
   have e2 : p k = x k := if_pos g
   refine .inl ⟨k, g, by omega, ?_⟩
   rw [e1, e2]; grind
  ·have e1 : q k = - ag A m z (k - m) := if_neg g
   have e2 : p k = ag A m x (k - m) := if_neg g
   refine .inr ⟨k - m, by omega, by omega, ?_⟩
   rw [ag_lin, e1, e2]; grind
def WayA (A : Nat → Nat → Int) (m n : Nat) (x : Nat → Int) : Prop :=
 ∃ z, sm m z = 0 ∧ (∃ i, i < m ∧ z i ≠ 0) ∧ (∀ i, i < m → x i = 0 → z i = 0) ∧ ∀ j, j < n → ag A m x j = 0 → ag A m z j = 0
def muA (A : Nat → Nat → Int) (m n : Nat) (x : Nat → Int) : Nat := cn m (fun i => x i ≠ 0) + cn n (fun j => ag A m x j ≠ 0)
def co (c : Nat → Int) (m : Nat) (x : Nat → Int) : Int := sm m fun i => x i * c i
theorem co_lin (c : Nat → Int) (m : Nat) (x z : Nat → Int) (P Q : Int) : co c m (fun i => Q * x i + P * z i) = Q * co c m x + P * co c m z := ag_lin (fun i _ => c i) m x z P Q 0
theorem stuck_le {A : Nat → Nat → Int} {m n : Nat} (c : Nat → Int) : ∀ k x, muA A m n x = k → Pl m x → Al A m n x → ∃ y, Pl m y ∧ Al A m n y ∧ ¬ WayA A m n y ∧ co c m y * sm m x ≤ co c m x * sm m y := by
 intro k
 induction k using Nat.strongRecOn with
 | ind k ih =>
  intro x hmu hx hN
  by_cases hw : WayA A m n x
  ·obtain ⟨z0, hz, hne, hs, hT⟩ := hw
   obtain ⟨z, hz, hne, hs, hT, hc⟩ : ∃ z, sm m z = 0 ∧ (∃ i, i < m ∧ z i ≠ 0) ∧ (∀ i, i < m → x i = 0 → z i = 0) ∧ (∀ j, j < n → ag A m x j = 0 → ag A m z j = 0) ∧ co c m z ≤ 0 := by
    by_cases g : co c m z0 ≤ 0
    ·exact ⟨z0, hz, hne, hs, hT, g⟩
    ·refine ⟨fun i => - z0 i, by rw [sm_neg, hz]; rfl, ?_, fun i hi h => by dsimp only; rw [hs i hi h]; rfl, fun j hj h => by rw [ag_neg, hT j hj h]; rfl, ?_⟩
     ·obtain ⟨i, hi, h⟩ := hne; exact ⟨i, hi, by dsimp only; omega⟩
     ·have e : co c m (fun i => - z0 i) = - co c m z0 := ag_neg (fun i _ => c i) m z0 0
      omega
   obtain ⟨P, Q, hP, hQ, hy, hys, hyA, hyt, hch⟩ := moveA hx hz hne hs hN hT
   have hlt : muA A m n (fun i => Q * x i + P * z i) < k := by
    rw [← hmu]
    unfold muA
    dsimp only
    have h1 : ∀ i, i < m → decide (Q * x i + P * z i ≠ 0) = true → decide (x i ≠ 0) = true := fun i hi h => by
     simp only [decide_eq_true_eq] at h ⊢
     intro e; rw [e, hs i hi e] at h; simp at h
    have h2 : ∀ j, j < n → decide (ag A m (fun i => Q * x i + P * z i) j ≠ 0) = true → decide (ag A m x j ≠ 0) = true := fun j hj h => by
     simp only [decide_eq_true_eq] at h ⊢
     exact fun e => h (hyt j hj e)
    rcases hch with ⟨i, hi, g1, g2⟩ | ⟨j, hj, g1, g2⟩
    ·have a1 := cn_lt h1 hi (by simp [g2]) (by simp [g1])
     have a2 := cn_le h2
     omega
    ·have a1 := cn_le h1
     have a2 := cn_lt h2 hj (by simp [g2]) (by simp [g1])
     omega
   obtain ⟨y, y1, y2, y3, y4⟩ := ih _ hlt _ rfl hy hyA
   refine ⟨y, y1, y2, y3, ?_⟩
   rw [hys, co_lin] at y4
   have h5 : co c m y * sm m x * Q ≤ co c m x * sm m y * Q := by
    have h6 : P * co c m z * sm m y ≤ 0 := by
     have := Int.mul_nonneg (Int.mul_nonneg (Int.le_of_lt hP) (show 0 ≤ - co c m z by omega)) (Int.le_of_lt y1.ps)
     have e : P * -co c m z * sm m y = - (P * co c m z * sm m y) := by grind
     omega
    have e1 : co c m y * (Q * sm m x) = co c m y * sm m x * Q := by grind
    have e2 : (Q * co c m x + P * co c m z) * sm m y = co c m x * sm m y * Q + P * co c m z * sm m y := by grind
    rw [e1, e2] at y4
    omega
   exact Int.le_of_mul_le_mul_right h5 hQ
  ·exact ⟨x, hx, hN, hw, Int.le_refl _⟩
theorem put_abA : ∀ (s : List Nat) (p : List Int) (k : Nat), put s (p.map ab) k = ab (put s p k) := by
 intro s
 induction s with
 | nil => intro p k; simp [put, ab]
 | cons a s ih =>
  intro p k
  cases p with
  | nil => simp [put, ab]
  | cons b p =>
   simp only [List.map_cons, put]
   split
   ·rfl
   ·exact ih p k
theorem par_put {m : Nat} {x : Nat → Int} {s : List Nat} {p : List Int} (hx : Pl m x) (hs : ∀ i, i < m → (i ∈ s ↔ x i ≠ 0))
 (h : ∀ i k, i ∈ s → k ∈ s → x i * put s p k = x k * put s p i) : Par m x (put s (p.map ab)) := by
 intro i k hi hk
 rw [put_abA, put_abA]
 by_cases gi : i ∈ s
 ·by_cases gk : k ∈ s
  ·have h1 := hx.nn i hi
   have h2 := hx.nn k hk
   have h3 := (hs i hi).1 gi
   have h4 := (hs k hk).1 gk
   exact ab_par (by omega) (by omega) (h i k gi gk)
  ·have h4 : x k = 0 := Classical.byContradiction fun e => gk ((hs k hk).2 e)
   rw [h4, put_zero s _ k gk]; simp [ab]
 ·have h4 : x i = 0 := Classical.byContradiction fun e => gi ((hs i hi).2 e)
  rw [h4, put_zero s _ i gi]; simp [ab]
theorem pl_put {m : Nat} {s : List Nat} {p : List Int} {r : Nat} (hr : r < m) (hne : put s p r ≠ 0) : Pl m (put s (p.map ab)) := by
 have hnn : ∀ i, i < m → 0 ≤ put s (p.map ab) i := fun i _ => by rw [put_abA]; exact ab_nonneg _
 exact ⟨hnn, sm_pos hnn hr (by rw [put_abA]; exact ab_pos hne)⟩
def eqA (A : Nat → Nat → Int) (m : Nat) (x : Nat → Int) (j a : Nat) : Int := if j = 0 then 1 else if ag A m x (j - 1) = 0 then A a (j - 1) else 0
theorem way_of {A : Nat → Nat → Int} {m : Nat} {x : Nat → Int} {L : List Nat} {p : List Int} (hn : L.Nodup) (hl : ∀ a ∈ L, a < m) (hx : ∀ a ∈ L, x a ≠ 0) (hne : ∃ i, i ∈ L ∧ put L p i ≠ 0)
 (h : ∀ j, j < 3 → ls (fun i => put L p i * eqA A m x j i) L = 0) : WayA A m 2 x := by
 obtain ⟨r, hr, hr0⟩ := hne
 refine ⟨put L p, ?_, ⟨r, hl r hr, hr0⟩, fun i hi h0 => put_zero L p i fun hm => hx i hm h0, fun j hj ht => ?_⟩
 ·have h0 := h 0 (by omega)
  rw [sm_list L (put L p) hn hl fun i _ hi => put_zero L p i hi]
  rw [← h0]
  exact ls_congr L fun i _ => by unfold eqA; simp
 ·have h0 := h (j + 1) (by omega)
  rw [ag_list hn hl fun i _ hi => put_zero L p i hi, ← h0]
  exact ls_congr L fun i _ => by unfold eqA; rw [if_neg (by omega), Nat.add_sub_cancel, if_pos ht]
def EdgeA (A : Nat → Nat → Int) (m : Nat) (e : Nat → Int) : Prop :=
 (∃ a, a < m ∧ e = put [a] ([1].map ab)) ∨
 (∃ a b j, a < b ∧ b < m ∧ j < 2 ∧ Gd [A b j, - A a j] ∧ e = put [a, b] ([A b j, - A a j].map ab)) ∨
 (∃ a b c, a < b ∧ b < c ∧ c < m ∧ Gd [A b 0 * A c 1 - A b 1 * A c 0, A c 0 * A a 1 - A c 1 * A a 0, A a 0 * A b 1 - A a 1 * A b 0] ∧
  e = put [a, b, c] ([A b 0 * A c 1 - A b 1 * A c 0, A c 0 * A a 1 - A c 1 * A a 0, A a 0 * A b 1 - A a 1 * A b 0].map ab))
theorem edge1 {A : Nat → Nat → Int} {m : Nat} {x : Nat → Int} (hx : Pl m x) {a : Nat} (ha : a < m) (hs : ∀ i, i < m → (i ∈ [a] ↔ x i ≠ 0)) : ∃ e, EdgeA A m e ∧ Pl m e ∧ Par m x e := by
 refine ⟨_, .inl ⟨a, ha, rfl⟩, pl_put ha (by simp [put]), par_put hx hs fun i k hi hk => ?_⟩
 simp at hi hk; subst hi; subst hk; rfl
theorem edge2 {A : Nat → Nat → Int} {m : Nat} {x : Nat → Int} (hx : Pl m x) {a b : Nat} (ha : a < m) (hb : b < m) (hab : a < b) (hs : ∀ i, i < m → (i ∈ [a, b] ↔ x i ≠ 0)) (hw : ¬ WayA A m 2 x) : ∃ e, EdgeA A m e ∧ Pl m e ∧ Par m x e := by
 have hxa : x a ≠ 0 := (hs a ha).1 (by simp)
 have hxb : x b ≠ 0 := (hs b hb).1 (by simp)
 have pa := hx.nn a ha
 have pb := hx.nn b hb
 have hz : ∀ i, i < m → i ∉ [a, b] → x i = 0 := fun i hi h => Classical.byContradiction fun e => h ((hs i hi).2 e)
 have hnd : [a, b].Nodup := sorted_nodup (by simp; omega)
 have hlm : ∀ i ∈ [a, b], i < m := by simp; omega
 have hba : ¬ b = a := by omega
 have htight : ∃ j, j < 2 ∧ ag A m x j = 0 ∧ (A a j ≠ 0 ∨ A b j ≠ 0) := by
  refine Classical.byContradiction fun hno => hw ?_
  have h0 : ∀ j, j < 2 → ag A m x j = 0 → A a j = 0 ∧ A b j = 0 := fun j hj ht => by
   refine ⟨Classical.byContradiction fun e => hno ⟨j, hj, ht, .inl e⟩, Classical.byContradiction fun e => hno ⟨j, hj, ht, .inr e⟩⟩
  refine way_of (L := [a, b]) (p := [1, -1]) hnd hlm (by simp; exact ⟨hxa, hxb⟩) ⟨a, by simp, by simp [put]⟩ fun j hj => ?_
  simp only [ls, put, if_true, if_neg hba, eqA]
  by_cases e : j = 0
  ·subst e; simp
  ·rw [if_neg e]
   split
   ·rename_i ht
    obtain ⟨g1, g2⟩ := h0 (j - 1) (by omega) ht
    rw [g1, g2]; simp
   ·simp
 obtain ⟨j, hj, ht, hne⟩ := htight
 have k1 : x a * A a j + x b * A b j = 0 := by
  have h1 := ag_list (A := A) hnd hlm hz j
  rw [ht] at h1
  simp only [ls] at h1
  omega
 have hn2 : A b j ≠ 0 ∨ - A a j ≠ 0 := by omega
 refine ⟨_, .inr (.inl ⟨a, b, j, hab, hb, hj, ?_, rfl⟩), ?_, par_put hx hs fun i k hi hk => ?_⟩
 ·refine gd_of (x := [x a, x b]) rfl (by simp; omega) ?_ fun i k hi hk => ?_
  ·rcases hn2 with h | h
   ·exact ⟨_, by simp, h⟩
   ·exact ⟨- A a j, by simp, h⟩
  ·simp only [List.length_cons, List.length_nil] at hi hk
   obtain rfl | rfl : i = 0 ∨ i = 1 := by omega
   all_goals obtain rfl | rfl : k = 0 ∨ k = 1 := by omega
   all_goals simp only [List.getD_cons_zero, List.getD_cons_succ]
   all_goals grind
 ·rcases hn2 with h | h
  ·exact pl_put ha (by simpa [put] using h)
  ·exact pl_put hb (by simp only [put, if_true, if_neg hba]; exact h)
 ·simp only [List.mem_cons, List.not_mem_nil, or_false] at hi hk
  rcases hi with rfl | rfl <;> rcases hk with rfl | rfl <;> simp only [put, if_true, if_neg hba] <;> grind
theorem det_any (f g h : Nat → Int) (e : f 0 * (g 1 * h 2 - h 1 * g 2) - g 0 * (f 1 * h 2 - h 1 * f 2) + h 0 * (f 1 * g 2 - g 1 * f 2) = 0) (i j k : Nat) (hi : i < 3) (hj : j < 3) (hk : k < 3) :
 f i * (g j * h k - g k * h j) - f j * (g i * h k - g k * h i) + f k * (g i * h j - g j * h i) = 0 := by
 obtain rfl | rfl | rfl : i = 0 ∨ i = 1 ∨ i = 2 := by omega
 all_goals obtain rfl | rfl | rfl : j = 0 ∨ j = 1 ∨ j = 2 := by omega
 all_goals obtain rfl | rfl | rfl : k = 0 ∨ k = 1 ∨ k = 2 := by omega
 all_goals grind
def detA (A : Nat → Nat → Int) (m : Nat) (x : Nat → Int) (a b c : Nat) : Int :=
 eqA A m x 0 a * (eqA A m x 1 b * eqA A m x 2 c - eqA A m x 1 c * eqA A m x 2 b) - eqA A m x 0 b * (eqA A m x 1 a * eqA A m x 2 c - eqA A m x 1 c * eqA A m x 2 a) + eqA A m x 0 c * (eqA A m x 1 a * eqA A m x 2 b - eqA A m x 1 b * eqA A m x 2 a)
theorem det_zero {A : Nat → Nat → Int} {m : Nat} {x : Nat → Int} {a b c : Nat} (ha : a < m) (hb : b < m) (hc : c < m) (hab : a < b) (hbc : b < c) (hxa : x a ≠ 0) (hxb : x b ≠ 0) (hxc : x c ≠ 0) (hw : ¬ WayA A m 2 x) : detA A m x a b c ≠ 0 := by
 intro h0
 unfold detA at h0
 have hba : ¬ b = a := by omega
 have hca : ¬ c = a := by omega
 have hcb : ¬ c = b := by omega
 obtain ⟨u, v, w, hne, h⟩ := dep3 (fun j => j < 3) (fun j => eqA A m x j a) (fun j => eqA A m x j b) (fun j => eqA A m x j c) (fun i j k hi hj hk => det_any (fun j => eqA A m x j a) (fun j => eqA A m x j b) (fun j => eqA A m x j c) h0 i j k hi hj hk)
 refine hw (way_of (L := [a, b, c]) (p := [u, v, w]) (sorted_nodup (by simp; omega)) (by simp; omega) (by simp; exact ⟨hxa, hxb, hxc⟩) ?_ fun j hj => ?_)
 ·rcases hne with h | h | h
  ·exact ⟨a, by simp, by simpa [put] using h⟩
  ·exact ⟨b, by simp, by simp only [put, if_true, if_neg hba]; exact h⟩
  ·exact ⟨c, by simp, by simp only [put, if_true, if_neg hca, if_neg hcb]; exact h⟩
 ·have := h j hj
  simp only [ls, put, if_true, if_neg hba, if_neg hca, if_neg hcb]
  omega
theorem edge3 {A : Nat → Nat → Int} {m : Nat} {x : Nat → Int} (hx : Pl m x) {a b c : Nat} (ha : a < m) (hb : b < m) (hc : c < m) (hab : a < b) (hbc : b < c) (hs : ∀ i, i < m → (i ∈ [a, b, c] ↔ x i ≠ 0)) (hw : ¬ WayA A m 2 x) : ∃ e, EdgeA A m e ∧ Pl m e ∧ Par m x e := by
 have hxa : x a ≠ 0 := (hs a ha).1 (by simp)
 have hxb : x b ≠ 0 := (hs b hb).1 (by simp)
 have hxc : x c ≠ 0 := (hs c hc).1 (by simp)
 have pa := hx.nn a ha
 have pb := hx.nn b hb
 have pc_ := hx.nn c hc
 have hz : ∀ i, i < m → i ∉ [a, b, c] → x i = 0 := fun i hi h => Classical.byContradiction fun e => h ((hs i hi).2 e)
 have hnd : [a, b, c].Nodup := sorted_nodup (by simp; omega)
 have hlm : ∀ i ∈ [a, b, c], i < m := by simp; omega
 have hba : ¬ b = a := by omega
 have hca : ¬ c = a := by omega
 have hcb : ¬ c = b := by omega
 have hd := det_zero (A := A) ha hb hc hab hbc hxa hxb hxc hw
 have t0 : ag A m x 0 = 0 := Classical.byContradiction fun e => hd (by
  have g : ∀ r, eqA A m x 1 r = 0 := fun r => by unfold eqA; rw [if_neg (by omega), if_neg e]
  unfold detA; rw [g, g, g]; simp)
 have t1 : ag A m x 1 = 0 := Classical.byContradiction fun e => hd (by
  have g : ∀ r, eqA A m x 2 r = 0 := fun r => by unfold eqA; rw [if_neg (by omega), if_neg e]
  unfold detA; rw [g, g, g]; simp)
 have g0 : ∀ r, eqA A m x 0 r = 1 := fun r => if_pos rfl
 have g1 : ∀ r, eqA A m x 1 r = A r 0 := fun r => by unfold eqA; rw [if_neg (by omega)]; exact if_pos t0
 have g2 : ∀ r, eqA A m x 2 r = A r 1 := fun r => by unfold eqA; rw [if_neg (by omega)]; exact if_pos t1
 unfold detA at hd
 rw [g0, g0, g0, g1, g1, g1, g2, g2, g2] at hd
 have k0 : x a * A a 0 + x b * A b 0 + x c * A c 0 = 0 := by
  have h1 := ag_list (A := A) hnd hlm hz 0
  rw [t0] at h1
  simp only [ls] at h1
  omega
 have k1 : x a * A a 1 + x b * A b 1 + x c * A c 1 = 0 := by
  have h1 := ag_list (A := A) hnd hlm hz 1
  rw [t1] at h1
  simp only [ls] at h1
  omega
 have q1 : x a * (A c 0 * A a 1 - A c 1 * A a 0) = x b * (A b 0 * A c 1 - A b 1 * A c 0) := by grind
 have q2 : x a * (A a 0 * A b 1 - A a 1 * A b 0) = x c * (A b 0 * A c 1 - A b 1 * A c 0) := by grind
 have q3 : x b * (A a 0 * A b 1 - A a 1 * A b 0) = x c * (A c 0 * A a 1 - A c 1 * A a 0) := by grind
 have hn3 : A b 0 * A c 1 - A b 1 * A c 0 ≠ 0 ∨ A c 0 * A a 1 - A c 1 * A a 0 ≠ 0 ∨ A a 0 * A b 1 - A a 1 * A b 0 ≠ 0 := by
  refine Classical.byContradiction fun e => hd ?_
  have e1 : A b 0 * A c 1 - A b 1 * A c 0 = 0 := Classical.byContradiction fun h => e (.inl h)
  have e2 : A c 0 * A a 1 - A c 1 * A a 0 = 0 := Classical.byContradiction fun h => e (.inr (.inl h))
  have e3 : A a 0 * A b 1 - A a 1 * A b 0 = 0 := Classical.byContradiction fun h => e (.inr (.inr h))
  grind
 generalize hwa : A b 0 * A c 1 - A b 1 * A c 0 = wa at *
 generalize hwb : A c 0 * A a 1 - A c 1 * A a 0 = wb at *
 generalize hwc : A a 0 * A b 1 - A a 1 * A b 0 = wc at *
 refine ⟨put [a, b, c] ([wa, wb, wc].map ab), .inr (.inr ⟨a, b, c, hab, hbc, hc, ?_, by rw [hwa, hwb, hwc]⟩), ?_, par_put hx hs fun i k hi hk => ?_⟩
 ·rw [hwa, hwb, hwc]
  refine gd_of (x := [x a, x b, x c]) rfl (by simp; omega) ?_ fun i k hi hk => ?_
  ·rcases hn3 with h | h | h
   ·exact ⟨wa, by simp, h⟩
   ·exact ⟨wb, by simp, h⟩
   ·exact ⟨wc, by simp, h⟩
  ·simp only [List.length_cons, List.length_nil] at hi hk
   obtain rfl | rfl | rfl : i = 0 ∨ i = 1 ∨ i = 2 := by omega
   all_goals obtain rfl | rfl | rfl : k = 0 ∨ k = 1 ∨ k = 2 := by omega
   all_goals simp only [List.getD_cons_zero, List.getD_cons_succ]
   all_goals first | rfl | omega
 ·rcases hn3 with h | h | h
  ·exact pl_put ha (by simpa [put] using h)
  ·exact pl_put hb (by simp only [put, if_true, if_neg hba]; exact h)
  ·exact pl_put hc (by simp only [put, if_true, if_neg hca, if_neg hcb]; exact h)
 ·simp only [List.mem_cons, List.not_mem_nil, or_false] at hi hk
  rcases hi with rfl | rfl | rfl <;> rcases hk with rfl | rfl | rfl <;> simp only [put, if_true, if_neg hba, if_neg hca, if_neg hcb] <;> first | rfl | omega
theorem way4 {A : Nat → Nat → Int} {m : Nat} {x : Nat → Int} {a b c d : Nat} (ha : a < m) (hb : b < m) (hc : c < m) (hd : d < m) (hab : a < b) (hbc : b < c) (hcd : c < d) (hxa : x a ≠ 0) (hxb : x b ≠ 0) (hxc : x c ≠ 0) (hxd : x d ≠ 0) : WayA A m 2 x := by
 refine Classical.byContradiction fun hw => ?_
 have h1 := det_zero (A := A) ha hb hc hab hbc hxa hxb hxc hw
 have hba : ¬ b = a := by omega
 have hca : ¬ c = a := by omega
 have hcb : ¬ c = b := by omega
 have hda : ¬ d = a := by omega
 have hdb : ¬ d = b := by omega
 have hdc : ¬ d = c := by omega
 refine hw (way_of (L := [a, b, c, d]) (p := [detA A m x b c d, - detA A m x a c d, detA A m x a b d, - detA A m x a b c]) (sorted_nodup (by simp; omega)) (by simp; omega) (by simp; exact ⟨hxa, hxb, hxc, hxd⟩) ⟨d, by simp, by simp only [put, if_true, if_neg hda, if_neg hdb, if_neg hdc]; omega⟩ fun j hj => ?_)
 simp only [ls, put, if_true, if_neg hba, if_neg hca, if_neg hcb, if_neg hda, if_neg hdb, if_neg hdc]
 unfold detA
 obtain rfl | rfl | rfl : j = 0 ∨ j = 1 ∨ j = 2 := by omega
 all_goals grind
theorem stuck_edge {A : Nat → Nat → Int} {m : Nat} {x : Nat → Int} (hx : Pl m x) (hw : ¬ WayA A m 2 x) : ∃ e, EdgeA A m e ∧ Pl m e ∧ Par m x e := by
 have hsm : ∀ i, i < m → (i ∈ (List.range m).filter (fun i => x i ≠ 0) ↔ x i ≠ 0) := fun i hi => by rw [filt_mem]; exact ⟨fun h => h.2, fun h => ⟨hi, h⟩⟩
 have hml : ∀ i, i ∈ (List.range m).filter (fun i => x i ≠ 0) → i < m ∧ x i ≠ 0 := fun i h => filt_mem.1 h
 have hso : ((List.range m).filter (fun i => x i ≠ 0)).Pairwise (· < ·) := List.Pairwise.filter _ (range_sorted m)
 generalize (List.range m).filter (fun i => x i ≠ 0) = s at *
 match s, hsm, hml, hso with
 | [], hsm, hml, hso =>
  exfalso
  have : sm m x = 0 := sm_zero fun i hi => Classical.byContradiction fun e => by have := (hsm i hi).2 e; simp at this
  have := hx.ps
  omega
 | [a], hsm, hml, hso => exact edge1 hx (hml a (by simp)).1 hsm
 | [a, b], hsm, hml, hso => exact edge2 hx (hml a (by simp)).1 (hml b (by simp)).1 (by simp at hso; omega) hsm hw
 | [a, b, c], hsm, hml, hso => exact edge3 hx (hml a (by simp)).1 (hml b (by simp)).1 (hml c (by simp)).1 (by simp at hso; omega) (by simp at hso; omega) hsm hw
 | a :: b :: c :: d :: r, hsm, hml, hso =>
  refine absurd (way4 (a := a) (b := b) (c := c) (d := d) (hml a (by simp)).1 (hml b (by simp)).1 (hml c (by simp)).1 (hml d (by simp)).1 ?_ ?_ ?_ (hml a (by simp)).2 (hml b (by simp)).2 (hml c (by simp)).2 (hml d (by simp)).2) hw
  all_goals (simp only [List.pairwise_cons, List.mem_cons] at hso; obtain ⟨h1, h2, h3, -⟩ := hso)
  ·exact h1 b (.inl rfl)
  ·exact h2 c (.inl rfl)
  ·exact h3 d (.inl rfl)
theorem edge_le {A : Nat → Nat → Int} {m : Nat} (c : Nat → Int) {x : Nat → Int} (hx : Pl m x) (hN : Al A m 2 x) : ∃ e, EdgeA A m e ∧ Pl m e ∧ Al A m 2 e ∧ co c m e * sm m x ≤ co c m x * sm m e := by
 obtain ⟨y, hy, hyA, hw, hle⟩ := stuck_le (n := 2) c _ x rfl hx hN
 obtain ⟨e, he, hp, hpar⟩ := stuck_edge hy hw
 have hc : co c m y * sm m e = co c m e * sm m y := hpar.ag (A := fun i _ => c i) 0
 refine ⟨e, he, hp, fun j hj => ?_, ?_⟩
 ·have h1 := hpar.ag (A := A) j
  have h2 := Int.mul_nonneg (hyA j hj) (Int.le_of_lt hp.ps)
  rw [h1] at h2
  exact Int.nonneg_of_mul_nonneg_left h2 hy.ps
 ·have h3 := Int.mul_le_mul_of_nonneg_right hle (Int.le_of_lt hp.ps)
  have e1 : co c m y * sm m x * sm m e = co c m e * sm m x * sm m y := by
   have : co c m y * sm m x * sm m e = co c m y * sm m e * sm m x := by grind
   rw [this, hc]; grind
  have e2 : co c m x * sm m y * sm m e = co c m x * sm m e * sm m y := by grind
  rw [e1, e2] at h3
  exact Int.le_of_mul_le_mul_right h3 hy.ps
theorem fm1 {N : Nat} {a b : Nat → Int} (h0 : ∀ i, i < N → a i = 0 → 0 ≤ b i) (h1 : ∀ i j, i < N → j < N → 0 < a i → a j < 0 → 0 ≤ a i * b j - a j * b i) : ∃ P Q : Int, 0 < Q ∧ ∀ i, i < N → a i * P ≤ b i * Q := by
 by_cases g : ∃ i, i < N ∧ 0 < a i
 ·obtain ⟨i, hi, hp, hm⟩ := min_ratio (fun i => 0 < a i) b a N (fun i _ h => h) g
  refine ⟨b i, a i, hp, fun j hj => ?_⟩
  rcases Int.lt_trichotomy (a j) 0 with h | h | h
  ·have := h1 i j hi hj hp h
   grind
  ·rw [h]
   have := Int.mul_nonneg (h0 j hj h) (Int.le_of_lt hp)
   omega
  ·have := hm j hj h
   grind
 ·by_cases g2 : ∃ i, i < N ∧ 0 < - a i
  ·obtain ⟨i, hi, hp, hm⟩ := min_ratio (fun i => 0 < - a i) b (fun i => - a i) N (fun i _ h => h) g2
   refine ⟨- b i, - a i, hp, fun j hj => ?_⟩
   rcases Int.lt_trichotomy (a j) 0 with h | h | h
   ·have := hm j hj (by omega)
    grind
   ·rw [h]
    have := Int.mul_nonneg (h0 j hj h) (Int.le_of_lt hp)
    omega
   ·exact absurd ⟨j, hj, h⟩ g
  ·refine ⟨0, 1, by omega, fun j hj => ?_⟩
   have h3 : a j = 0 := by
    rcases Int.lt_trichotomy (a j) 0 with h | h | h
    ·exact absurd ⟨j, hj, by omega⟩ g2
    ·exact h
    ·exact absurd ⟨j, hj, h⟩ g
   have := h0 j hj h3
   rw [h3]; omega
def two (i j : Nat) (p q : Int) (k : Nat) : Int := (if k = i then p else 0) + (if k = j then q else 0)
theorem two_sm {N i j : Nat} (hi : i < N) (hj : j < N) (p q : Int) (f : Nat → Int) : sm N (fun k => two i j p q k * f k) = p * f i + q * f j := by
 have e : sm N (fun k => two i j p q k * f k) = sm N (fun k => if k = i then p * f k else 0) + sm N (fun k => if k = j then q * f k else 0) := by
  rw [← sm_add]
  exact sm_congr fun k _ => by unfold two; split <;> split <;> grind
 have one : ∀ (i : Nat) (p : Int), i < N → sm N (fun k => if k = i then p * f k else 0) = p * f i := fun i p hi => by
  rw [sm_split _ hi, sm_zero]
  ·rw [if_pos rfl]; omega
  ·intro k _
   by_cases e : k = i
   ·rw [if_pos e]
   ·rw [if_neg e, if_neg e]
 rw [e, one i p hi, one j q hj]
theorem two_nn {i j : Nat} {p q : Int} (hp : 0 ≤ p) (hq : 0 ≤ q) (k : Nat) : 0 ≤ two i j p q k := by unfold two; split <;> split <;> omega
theorem fm2 {N : Nat} {a c b : Nat → Int} (H : ∀ x : Nat → Int, (∀ i, i < N → 0 ≤ x i) → sm N (fun i => x i * a i) = 0 → sm N (fun i => x i * c i) = 0 → 0 ≤ sm N (fun i => x i * b i)) :
 ∃ P M Q : Int, 0 < Q ∧ ∀ i, i < N → a i * P + c i * M ≤ b i * Q := by
 -- the bounds on the first number: of a bound without the second, and of two that bound it from both sides
 let X : Nat → Nat → Int := fun k => if c (k / N) = 0 then two (k / N) (k / N) 1 0 else if 0 < c (k / N) ∧ c (k % N) < 0 then two (k / N) (k % N) (- c (k % N)) (c (k / N)) else fun _ => 0
 have hb : ∀ k, k < N * N → k / N < N ∧ k % N < N := fun k hk => ⟨Nat.div_lt_of_lt_mul hk, Nat.mod_lt _ (by rcases Nat.eq_zero_or_pos N with h | h; (subst h; simp at hk); exact h)⟩
 have Xnn : ∀ k, k < N * N → ∀ i, 0 ≤ X k i := fun k hk i => by
  simp only [X]
  split
  ·exact two_nn (by omega) (by omega) i
  ·split
   ·rename_i h; exact two_nn (by omega) (by omega) i
   ·exact Int.le_refl _
 have Xc : ∀ k, k < N * N → sm N (fun i => X k i * c i) = 0 := fun k hk => by
  obtain ⟨h1, h2⟩ := hb k hk
  simp only [X]
  split
  ·rename_i h; rw [two_sm h1 h1, h]; omega
  ·split
   ·rw [two_sm h1 h2]; grind
   ·exact sm_zero fun i _ => Int.zero_mul _
 let A : Nat → Int := fun k => sm N fun i => X k i * a i
 let B : Nat → Int := fun k => sm N fun i => X k i * b i
 obtain ⟨P, Q, hQ, hP⟩ := fm1 (N := N * N) (a := A) (b := B) (fun k hk h => H (X k) (fun i _ => Xnn k hk i) h (Xc k hk)) (fun k l hk hl hp hn => by
  have hx := H (fun i => (- A l) * X k i + A k * X l i) (fun i _ => by
   have h1 := Int.mul_nonneg (show 0 ≤ - A l by omega) (Xnn k hk i)
   have h2 := Int.mul_nonneg (Int.le_of_lt hp) (Xnn l hl i)
   omega) (by
   have := ag_lin (fun i _ => a i) N (X k) (X l) (A k) (- A l) 0
   unfold ag at this
   rw [this]
   show - A l * A k + A k * A l = 0
   grind) (by
   have := ag_lin (fun i _ => c i) N (X k) (X l) (A k) (- A l) 0
   unfold ag at this
   rw [this, Xc k hk, Xc l hl]; omega)
  have := ag_lin (fun i _ => b i) N (X k) (X l) (A k) (- A l) 0
  unfold ag at this
  rw [this] at hx
  have hx2 : 0 ≤ - A l * B k + A k * B l := hx
  grind)
 -- the second number
 obtain ⟨M, R, hR, hM⟩ := fm1 (N := N) (a := c) (b := fun i => b i * Q - a i * P) (fun i hi h => by
  have hk : i * N + i < N * N := by
   have h1 : i * N + N ≤ N * N := by rw [← Nat.succ_mul]; exact Nat.mul_le_mul_right N hi
   omega
  have e1 : (i * N + i) / N = i := by rw [Nat.mul_comm, Nat.mul_add_div (by omega), Nat.div_eq_of_lt hi]; omega
  have h2 := hP (i * N + i) hk
  have eX : X (i * N + i) = two i i 1 0 := by simp only [X, e1, if_pos h]
  have eA : A (i * N + i) = a i := by show sm N (fun k => X (i * N + i) k * a k) = _; rw [eX, two_sm hi hi]; omega
  have eB : B (i * N + i) = b i := by show sm N (fun k => X (i * N + i) k * b k) = _; rw [eX, two_sm hi hi]; omega
  rw [eA, eB] at h2
  show 0 ≤ b i * Q - a i * P
  omega) (fun i j hi hj hp hn => by
  have hk : i * N + j < N * N := by
   have h1 : i * N + N ≤ N * N := by rw [← Nat.succ_mul]; exact Nat.mul_le_mul_right N hi
   omega
  have e1 : (i * N + j) / N = i := by rw [Nat.mul_comm, Nat.mul_add_div (by omega), Nat.div_eq_of_lt hj]; omega
  have e2 : (i * N + j) % N = j := by rw [Nat.mul_comm, Nat.mul_add_mod, Nat.mod_eq_of_lt hj]
  have h2 := hP (i * N + j) hk
  have eX : X (i * N + j) = two i j (- c j) (c i) := by simp only [X, e1, e2]; rw [if_neg (by omega), if_pos ⟨hp, hn⟩]
  have eA : A (i * N + j) = - c j * a i + c i * a j := by show sm N (fun k => X (i * N + j) k * a k) = _; rw [eX, two_sm hi hj]
  have eB : B (i * N + j) = - c j * b i + c i * b j := by show sm N (fun k => X (i * N + j) k * b k) = _; rw [eX, two_sm hi hj]
  rw [eA, eB] at h2
  show 0 ≤ c i * (b j * Q - a j * P) - c j * (b i * Q - a i * P)
  grind)
 refine ⟨P * R, M, Q * R, Int.mul_pos hQ hR, fun i hi => ?_⟩
 have h1 := hM i hi
 try dsimp only at h1
 grind
theorem dual_pt {A : Nat → Nat → Int} {m : Nat} {c : Nat → Int} {N D : Int} (h : ∀ x, Pl m x → Al A m 2 x → N * sm m x ≤ co c m x * D) :
 ∃ P M Q : Int, 0 < Q ∧ 0 ≤ P ∧ 0 ≤ M ∧ ∀ i, i < m → A i 0 * P + A i 1 * M ≤ (c i * D - N) * Q := by
 obtain ⟨P, M, Q, hQ, hb⟩ := fm2 (N := m + 2) (a := fun i => if i < m then A i 0 else if i = m then -1 else 0) (c := fun i => if i < m then A i 1 else if i = m then 0 else -1) (b := fun i => if i < m then c i * D - N else 0) (fun x hx h1 h2 => by
  have e0 : ¬ m < m := by omega
  have e2 : ¬ m + 1 < m := by omega
  have e3 : ¬ m + 1 = m := by omega
  simp only [sm, if_neg e0, if_neg e2, if_neg e3, if_true] at h1 h2 ⊢
  have f1 : sm m (fun i => x i * if i < m then A i 0 else if i = m then -1 else 0) = ag A m x 0 := sm_congr fun i hi => by rw [if_pos hi]
  have f2 : sm m (fun i => x i * if i < m then A i 1 else if i = m then 0 else -1) = ag A m x 1 := sm_congr fun i hi => by rw [if_pos hi]
  have f3 : sm m (fun i => x i * if i < m then c i * D - N else 0) = co c m x * D - N * sm m x := by
   have g1 : sm m (fun i => x i * if i < m then c i * D - N else 0) = sm m (fun i => D * (x i * c i) + (- N) * x i) := sm_congr fun i hi => by rw [if_pos hi]; grind
   rw [g1, sm_lin (m := m) (x := fun i => x i * c i) (z := x) (P := - N) (Q := D)]
   unfold co
   grind
  rw [f1] at h1
  rw [f2] at h2
  rw [f3]
  have a1 := hx m (by omega)
  have a2 := hx (m + 1) (by omega)
  have hnn : ∀ i, i < m → 0 ≤ x i := fun i hi => hx i (by omega)
  have hs := sm_nonneg hnn
  rcases Int.lt_or_le 0 (sm m x) with g | g
  ·have := h x ⟨hnn, g⟩ (fun j hj => by
    obtain rfl | rfl : j = 0 ∨ j = 1 := by omega
    ·omega
    ·omega)
   omega
  ·have hz : ∀ i, i < m → x i = 0 := fun i hi => by
    have := sm_one hnn hi
    have := hnn i hi
    omega
   have z1 : sm m x = 0 := sm_zero hz
   have z2 : co c m x = 0 := sm_zero fun i hi => by rw [hz i hi]; omega
   rw [z1, z2]; omega)
 have b1 := hb m (by omega)
 have b2 := hb (m + 1) (by omega)
 rw [if_neg (by omega), if_pos rfl, if_neg (by omega), if_pos rfl, if_neg (by omega)] at b1
 rw [if_neg (by omega), if_neg (by omega), if_neg (by omega), if_neg (by omega), if_neg (by omega)] at b2
 refine ⟨P, M, Q, hQ, by omega, by omega, fun i hi => ?_⟩
 have := hb i (by omega)
 rw [if_pos hi, if_pos hi, if_pos hi] at this
 exact this
def sd (g : Nat → Nat → Int) (i : Nat) (y : Nat → Int) : Int := g i 0 * y 0 + g i 1 * y 1 + g i 2 * y 2
theorem sd_lin (g : Nat → Nat → Int) (i : Nat) (y z : Nat → Int) (P Q : Int) : sd g i (fun j => Q * y j + P * z j) = Q * sd g i y + P * sd g i z := by unfold sd; grind
def In (g : Nat → Nat → Int) (b : Nat → Int) (K : Nat) (y : Nat → Int) (D : Int) : Prop := ∀ i, i < K → sd g i y ≤ b i * D
def det3 (g : Nat → Nat → Int) (i j k : Nat) : Int := g i 0 * (g j 1 * g k 2 - g k 1 * g j 2) - g j 0 * (g i 1 * g k 2 - g k 1 * g i 2) + g k 0 * (g i 1 * g j 2 - g j 1 * g i 2)
theorem vertex {g : Nat → Nat → Int} {b : Nat → Int} {K : Nat} (v : Nat → Nat → Int) (hspan : ∀ z : Nat → Int, (∃ j, j < 3 ∧ z j ≠ 0) → ∃ i, i < K ∧ sd g i z ≠ 0) :
 ∀ n y D, cn K (fun i => decide (sd g i y ≠ b i * D)) = n → 0 < D → In g b K y D → (∀ y' D', 0 < D' → In g b K y' D' → sd v 0 y' * D ≤ sd v 0 y * D') →
 ∃ y' D' i j k, 0 < D' ∧ In g b K y' D' ∧ sd v 0 y' * D = sd v 0 y * D' ∧ i < K ∧ j < K ∧ k < K ∧ det3 g i j k ≠ 0 ∧ sd g i y' = b i * D' ∧ sd g j y' = b j * D' ∧ sd g k y' = b k * D' := by
 intro n
 induction n using Nat.strongRecOn with
 | ind n ih =>
  intro y D hn hD hin hmax
  by_cases ht : ∃ i j k, (i < K ∧ sd g i y = b i * D) ∧ (j < K ∧ sd g j y = b j * D) ∧ (k < K ∧ sd g k y = b k * D) ∧ det3 g i j k ≠ 0
  ·obtain ⟨i, j, k, ⟨hi, ei⟩, ⟨hj, ej⟩, ⟨hk, ek⟩, hd⟩ := ht
   exact ⟨y, D, i, j, k, hD, hin, rfl, hi, hj, hk, hd, ei, ej, ek⟩
  ·obtain ⟨z0, z1, z2, hne, hz⟩ := dep3 (fun i => i < K ∧ sd g i y = b i * D) (fun i => g i 0) (fun i => g i 1) (fun i => g i 2) (fun i j k hi hj hk => by
    have h := Classical.byContradiction fun e => ht ⟨i, j, k, hi, hj, hk, e⟩
    unfold det3 at h
    grind)
   -- a direction against which some side that is not met stands
   have hdir : ∃ z : Nat → Int, (∀ i, i < K → sd g i y = b i * D → sd g i z = 0) ∧ ∃ i, i < K ∧ 0 < sd g i z := by
    let z : Nat → Int := fun j => if j = 0 then z0 else if j = 1 then z1 else z2
    have ez : ∀ i, sd g i z = z0 * g i 0 + z1 * g i 1 + z2 * g i 2 := fun i => by simp only [sd, z]; simp; grind
    have hzt : ∀ i, i < K → sd g i y = b i * D → sd g i z = 0 := fun i hi e => by rw [ez]; exact hz i ⟨hi, e⟩
    obtain ⟨i, hi, hin0⟩ := hspan z (by
     rcases hne with h | h | h
     ·exact ⟨0, by omega, by simpa [z] using h⟩
     ·exact ⟨1, by omega, by simpa [z] using h⟩
     ·exact ⟨2, by omega, by simpa [z] using h⟩)
    rcases Int.lt_trichotomy (sd g i z) 0 with h | h | h
    ·refine ⟨fun j => - z j, fun r hr e => ?_, i, hi, ?_⟩
     ·have := hzt r hr e
      unfold sd at this ⊢; grind
     ·have e2 : sd g i (fun j => - z j) = - sd g i z := by unfold sd; grind
      omega
    ·exact absurd h hin0
    ·exact ⟨z, hzt, i, hi, h⟩
   obtain ⟨z, hzt, hex⟩ := hdir
   obtain ⟨r, hr, hq, hm⟩ := min_ratio (fun i => 0 < sd g i z) (fun i => b i * D - sd g i y) (fun i => sd g i z) K (fun i _ h => h) hex
   have hp : 0 < b r * D - sd g r y := by
    have h1 := hin r hr
    have h2 := hzt r hr
    omega
   generalize hP : b r * D - sd g r y = P at *
   generalize hQ : sd g r z = Q at *
   have hin2 : In g b K (fun j => Q * y j + P * z j) (Q * D) := fun i hi => by
    rw [sd_lin]
    have h1 := hin i hi
    have h3 : b i * (Q * D) = Q * (b i * D) := by grind
    rw [h3]
    by_cases gz : 0 < sd g i z
    ·have h4 := hm i hi gz
     have h5 : Q * (b i * D) = Q * sd g i y + (b i * D - sd g i y) * Q := by grind
     have h6 : P * sd g i z ≤ (b i * D - sd g i y) * Q := h4
     omega
    ·have h4 := Int.mul_le_mul_of_nonneg_left h1 (Int.le_of_lt hq)
     have h5 := Int.mul_nonneg (Int.le_of_lt hp) (show 0 ≤ - sd g i z by omega)
     have h6 : P * -sd g i z = - (P * sd g i z) := by grind
     omega
   have hQD : 0 < Q * D := Int.mul_pos hq hD
   -- the value does not change
   have hv0 : sd v 0 z = 0 := by
    have h1 := hmax _ _ hQD hin2
    rw [sd_lin] at h1
    have u1 : sd v 0 z ≤ 0 := by
     refine Classical.byContradiction fun e => ?_
     have h2 := Int.mul_pos (Int.mul_pos hp (show 0 < sd v 0 z by omega)) hD
     have h3 : (Q * sd v 0 y + P * sd v 0 z) * D = sd v 0 y * (Q * D) + P * sd v 0 z * D := by grind
     omega
    -- the other way, a little
    let R : Int := 1 + sm K (fun i => ab (sd g i z))
    have hR : ∀ i, i < K → - sd g i z ≤ R := fun i hi => by
     have h2 := sm_one (n := K) (f := fun i => ab (sd g i z)) (fun i _ => ab_nonneg _) hi
     have h3 : - sd g i z ≤ ab (sd g i z) := by unfold ab; split <;> omega
     simp only [R]; omega
    have hR0 : 0 < R := by
     have h2 := sm_nonneg (n := K) (f := fun i => ab (sd g i z)) fun i _ => ab_nonneg _
     simp only [R]; omega
    have hin3 : In g b K (fun j => R * y j + (-1) * z j) (R * D) := fun i hi => by
     rw [sd_lin]
     have h2 := hin i hi
     have h3 : b i * (R * D) = R * (b i * D) := by grind
     rw [h3]
     by_cases e : sd g i y = b i * D
     ·rw [e, hzt i hi e]; omega
     ·have h4 : R * 1 ≤ R * (b i * D - sd g i y) := Int.mul_le_mul_of_nonneg_left (by omega) (Int.le_of_lt hR0)
      have h5 : R * (b i * D - sd g i y) = R * (b i * D) - R * sd g i y := by grind
      have := hR i hi
      omega
    have h4 := hmax _ _ (Int.mul_pos hR0 hD) hin3
    rw [sd_lin] at h4
    have u2 : 0 ≤ sd v 0 z := by
     refine Classical.byContradiction fun e => ?_
     have h5 := Int.mul_pos (show 0 < - sd v 0 z by omega) hD
     have h6 : (R * sd v 0 y + -1 * sd v 0 z) * D = sd v 0 y * (R * D) + - sd v 0 z * D := by grind
     omega
    omega
   have hval : sd v 0 (fun j => Q * y j + P * z j) * D = sd v 0 y * (Q * D) := by rw [sd_lin, hv0]; grind
   have hlt : cn K (fun i => decide (sd g i (fun j => Q * y j + P * z j) ≠ b i * (Q * D))) < n := by
    rw [← hn]
    refine cn_lt (fun i hi h => ?_) hr ?_ ?_
    ·simp only [decide_eq_true_eq] at h ⊢
     intro e
     refine h ?_
     rw [sd_lin, hzt i hi e, e]; grind
    ·simp only [decide_eq_false_iff_not, Classical.not_not]
     rw [sd_lin, hQ]
     have : sd g r y = b r * D - P := by omega
     rw [this]; grind
    ·simp only [decide_eq_true_eq]; omega
   obtain ⟨y', D', i, j, k, q1, q2, q3, q4⟩ := ih _ hlt _ _ rfl hQD hin2 (fun y' D' hD' hi' => by
    have h1 := hmax y' D' hD' hi'
    have h2 := Int.mul_le_mul_of_nonneg_right h1 (Int.le_of_lt hq)
    have h3 : sd v 0 (fun j => Q * y j + P * z j) = Q * sd v 0 y := by rw [sd_lin, hv0]; omega
    rw [h3]
    grind)
   refine ⟨y', D', i, j, k, q1, q2, ?_, q4⟩
   have h3 : sd v 0 (fun j => Q * y j + P * z j) = Q * sd v 0 y := by rw [sd_lin, hv0]; omega
   rw [h3] at q3
   have h4 : sd v 0 y' * D * Q = sd v 0 y * D' * Q := by grind
   exact Int.eq_of_mul_eq_mul_right (by omega) h4
def cr (g : Nat → Nat → Int) (i k : Nat) (n : Nat) : Int := if n = 0 then g i 1 * g k 2 - g i 2 * g k 1 else if n = 1 then g i 2 * g k 0 - g i 0 * g k 2 else g i 0 * g k 1 - g i 1 * g k 0
theorem ray {g : Nat → Nat → Int} {K : Nat} (v : Nat → Nat → Int) (hspan : ∀ z : Nat → Int, (∃ j, j < 3 ∧ z j ≠ 0) → ∃ i, i < K ∧ sd g i z ≠ 0) :
 ∀ n y, cn K (fun i => decide (sd g i y ≠ 0)) = n → (∀ i, i < K → sd g i y ≤ 0) → 0 < sd v 0 y →
 ∃ y' i k, (∀ i, i < K → sd g i y' ≤ 0) ∧ 0 < sd v 0 y' ∧ i < K ∧ k < K ∧ sd g i y' = 0 ∧ sd g k y' = 0 ∧ ∃ n, n < 3 ∧ cr g i k n ≠ 0 := by
 intro n
 induction n using Nat.strongRecOn with
 | ind n ih =>
  intro y hn hin hv
  by_cases ht : ∃ i k, (i < K ∧ sd g i y = 0) ∧ (k < K ∧ sd g k y = 0) ∧ ∃ n, n < 3 ∧ cr g i k n ≠ 0
  ·obtain ⟨i, k, ⟨hi, ei⟩, ⟨hk, ek⟩, hc⟩ := ht
   exact ⟨y, i, k, hin, hv, hi, hk, ei, ek, hc⟩
  ·have hc : ∀ i k, i < K → k < K → sd g i y = 0 → sd g k y = 0 → g i 1 * g k 2 = g i 2 * g k 1 ∧ g i 2 * g k 0 = g i 0 * g k 2 ∧ g i 0 * g k 1 = g i 1 * g k 0 := fun i k hi hk ei ek => by
    have h0 : ∀ n, n < 3 → cr g i k n = 0 := fun n hn => Classical.byContradiction fun e => ht ⟨i, k, ⟨hi, ei⟩, ⟨hk, ek⟩, n, hn, e⟩
    have a0 := h0 0 (by omega)
    have a1 := h0 1 (by omega)
    have a2 := h0 2 (by omega)
    simp [cr] at a0 a1 a2
    omega
   let h : Nat → Nat → Int := fun i j => if i < K then g i j else v 0 j
   have hl : ∀ i j, i < K → h i j = g i j := fun i j hi => if_pos hi
   have hr : ∀ j, h K j = v 0 j := fun j => if_neg (by omega)
   obtain ⟨z0, z1, z2, hne, hz⟩ := dep3 (fun i => (i < K ∧ sd g i y = 0) ∨ i = K) (fun i => h i 0) (fun i => h i 1) (fun i => h i 2) (fun i j k hi hj hk => by
    rcases hi with ⟨hi, ei⟩ | rfl
    ·rcases hj with ⟨hj, ej⟩ | rfl
     ·obtain ⟨q0, q1, q2⟩ := hc i j hi hj ei ej
      rw [hl i 0 hi, hl i 1 hi, hl i 2 hi, hl j 0 hj, hl j 1 hj, hl j 2 hj]
      grind
     ·rcases hk with ⟨hk, ek⟩ | rfl
      ·obtain ⟨q0, q1, q2⟩ := hc i k hi hk ei ek
       rw [hl i 0 hi, hl i 1 hi, hl i 2 hi, hl k 0 hk, hl k 1 hk, hl k 2 hk]
       grind
      ·grind
    ·rcases hj with ⟨hj, ej⟩ | rfl
     ·rcases hk with ⟨hk, ek⟩ | rfl
      ·obtain ⟨q0, q1, q2⟩ := hc j k hj hk ej ek
       rw [hl j 0 hj, hl j 1 hj, hl j 2 hj, hl k 0 hk, hl k 1 hk, hl k 2 hk]
       grind
      ·grind
     ·grind)
   have hdir : ∃ z : Nat → Int, (∀ i, i < K → sd g i y = 0 → sd g i z = 0) ∧ sd v 0 z = 0 ∧ ∃ i, i < K ∧ 0 < sd g i z := by
    let z : Nat → Int := fun j => if j = 0 then z0 else if j = 1 then z1 else z2
    have ez : ∀ i, sd g i z = z0 * g i 0 + z1 * g i 1 + z2 * g i 2 := fun i => by simp only [sd, z]; simp; grind
    have hzt : ∀ i, i < K → sd g i y = 0 → sd g i z = 0 := fun i hi e => by
     rw [ez]
     have := hz i (.inl ⟨hi, e⟩)
     rwa [hl i 0 hi, hl i 1 hi, hl i 2 hi] at this
    have hzv : sd v 0 z = 0 := by
     have := hz K (.inr rfl)
     rw [hr, hr, hr] at this
     simp only [sd, z]; simp; grind
    obtain ⟨i, hi, hin0⟩ := hspan z (by
     rcases hne with h | h | h
     ·exact ⟨0, by omega, by simpa [z] using h⟩
     ·exact ⟨1, by omega, by simpa [z] using h⟩
     ·exact ⟨2, by omega, by simpa [z] using h⟩)
    rcases Int.lt_trichotomy (sd g i z) 0 with h | h | h
    ·refine ⟨fun j => - z j, fun r hr e => ?_, ?_, i, hi, ?_⟩
     ·have := hzt r hr e
      unfold sd at this ⊢; grind
     ·unfold sd at hzv ⊢; grind
     ·have e2 : sd g i (fun j => - z j) = - sd g i z := by unfold sd; grind
      omega
    ·exact absurd h hin0
    ·exact ⟨z, hzt, hzv, i, hi, h⟩
   obtain ⟨z, hzt, hzv, hex⟩ := hdir
   obtain ⟨r, hr, hq, hm⟩ := min_ratio (fun i => 0 < sd g i z) (fun i => - sd g i y) (fun i => sd g i z) K (fun i _ h => h) hex
   have hp : 0 < - sd g r y := by
    have h1 := hin r hr
    have h2 := hzt r hr
    omega
   generalize hP : - sd g r y = P at *
   generalize hQ : sd g r z = Q at *
   have hin2 : ∀ i, i < K → sd g i (fun j => Q * y j + P * z j) ≤ 0 := fun i hi => by
    rw [sd_lin]
    have h1 := hin i hi
    by_cases gz : 0 < sd g i z
    ·have h6 : P * sd g i z ≤ - sd g i y * Q := hm i hi gz
     have h7 : - sd g i y * Q = - (Q * sd g i y) := by grind
     omega
    ·have h4 := Int.mul_nonneg (Int.le_of_lt hq) (show 0 ≤ - sd g i y by omega)
     have h5 := Int.mul_nonneg (Int.le_of_lt hp) (show 0 ≤ - sd g i z by omega)
     have h6 : P * -sd g i z = - (P * sd g i z) := by grind
     have h7 : Q * -sd g i y = - (Q * sd g i y) := by grind
     omega
   have hv2 : 0 < sd v 0 (fun j => Q * y j + P * z j) := by
    rw [sd_lin, hzv]
    have := Int.mul_pos hq hv
    omega
   have hlt : cn K (fun i => decide (sd g i (fun j => Q * y j + P * z j) ≠ 0)) < n := by
    rw [← hn]
    refine cn_lt (fun i hi h => ?_) hr ?_ ?_
    ·simp only [decide_eq_true_eq] at h ⊢
     intro e
     refine h ?_
     rw [sd_lin, hzt i hi e, e]; omega
    ·simp only [decide_eq_false_iff_not, Classical.not_not]
     rw [sd_lin, hQ]
     have : sd g r y = - P := by omega
     rw [this]; grind
    ·simp only [decide_eq_true_eq]; omega
   exact ih _ hlt _ rfl hin2 hv2
theorem ray_par {g : Nat → Nat → Int} {y : Nat → Int} {i k : Nat} (ei : sd g i y = 0) (ek : sd g k y = 0) : y 0 * cr g i k 1 = y 1 * cr g i k 0 ∧ y 0 * cr g i k 2 = y 2 * cr g i k 0 ∧ y 1 * cr g i k 2 = y 2 * cr g i k 1 := by
 unfold sd at ei ek
 simp only [cr]
 simp
 refine ⟨?_, ?_, ?_⟩ <;> grind
end Go.Proofs.Ytpnfhcnnodolbaa.Game
namespace Go.Proofs.Ytpnfhcnnodolbaa
open Go Go.RowKit
def C2 (w : World) (b : Nat) (x y : Int) : Prop := w.cell? ⟨b, 0, none⟩ = some (.int .i64 x) ∧ w.cell? ⟨b, 1, none⟩ = some (.int .i64 y)
def C4 (w : World) (b : Nat) (x y z t : Int) : Prop := w.cell? ⟨b, 0, none⟩ = some (.int .i64 x) ∧ w.cell? ⟨b, 1, none⟩ = some (.int .i64 y) ∧ w.cell? ⟨b, 2, none⟩ = some (.int .i64 z) ∧ w.cell? ⟨b, 3, none⟩ = some (.int .i64 t)
def C5 (w : World) (b : Nat) (x y z t r : Int) : Prop := w.cell? ⟨b, 0, none⟩ = some (.int .i64 x) ∧ w.cell? ⟨b, 1, none⟩ = some (.int .i64 y) ∧ w.cell? ⟨b, 2, none⟩ = some (.int .i64 z) ∧ w.cell? ⟨b, 3, none⟩ = some (.int .i64 t) ∧ w.cell? ⟨b, 4, none⟩ = some (.int .i64 r)
theorem C2.ext {w w' : World} {b : Nat} {x y : Int} (h : C2 w b x y) (k : Ext w w') : C2 w' b x y := ⟨k.cell h.1, k.cell h.2⟩
theorem C4.ext {w w' : World} {b : Nat} {x y z t : Int} (h : C4 w b x y z t) (k : Ext w w') : C4 w' b x y z t := ⟨k.cell h.1, k.cell h.2.1, k.cell h.2.2.1, k.cell h.2.2.2⟩
theorem C5.ext {w w' : World} {b : Nat} {x y z t r : Int} (h : C5 w b x y z t r) (k : Ext w w') : C5 w' b x y z t r := ⟨k.cell h.1, k.cell h.2.1, k.cell h.2.2.1, k.cell h.2.2.2.1, k.cell h.2.2.2.2⟩
end Go.Proofs.Ytpnfhcnnodolbaa
