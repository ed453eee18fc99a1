/- Texts of one proof, laid together: Leq, Min, Dul, Nev, Nve, LaQa, LaQ. -/
import Derived.Test.YtpnfhcnnodolbaaZProofsA38
import Derived.Test.YtpnfhcnnodolbaaZY26
import Derived.Test.YtpnfhcnnodolbaaZY10
import Derived.Test.YtpnfhcnnodolbaaZY7
import Derived.Test.YtpnfhcnnodolbaaZY2
import Derived.Test.YtpnfhcnnodolbaaZProofsA34
import Derived.Test.YtpnfhcnnodolbaaZY25
import Derived.Test.YtpnfhcnnodolbaaZY11
import Derived.Test.YtpnfhcnnodolbaaZY4
import Derived.Test.YtpnfhcnnodolbaaZY18
import Derived.Test.YtpnfhcnnodolbaaZProofsA36
import Derived.Test.YtpnfhcnnodolbaaZY17
import Derived.Test.YtpnfhcnnodolbaaZY16
import Derived.Test.YtpnfhcnnodolbaaZY8
import Derived.Test.YtpnfhcnnodolbaaZProofsA35
import Derived.Test.YtpnfhcnnodolbaaZY22
import Derived.Test.YtpnfhcnnodolbaaZY20
import Derived.Test.YtpnfhcnnodolbaaZY21
import Derived.Test.YtpnfhcnnodolbaaZY9
import Derived.Test.YtpnfhcnnodolbaaZY5
import Derived.Test.YtpnfhcnnodolbaaZY13
import Derived.Test.YtpnfhcnnodolbaaZY3
import Derived.Test.YtpnfhcnnodolbaaZY19
import Derived.Test.YtpnfhcnnodolbaaZY1
import Derived.Test.YtpnfhcnnodolbaaZY30
import Derived.Test.YtpnfhcnnodolbaaZY28
import Derived.Test.YtpnfhcnnodolbaaZY23
import Derived.Test.YtpnfhcnnodolbaaZY14
import Derived.Test.YtpnfhcnnodolbaaZY12
import Derived.Test.YtpnfhcnnodolbaaZY27
import Derived.Test.YtpnfhcnnodolbaaZY6
import Derived.Test.YtpnfhcnnodolbaaZY31
import Derived.Test.YtpnfhcnnodolbaaZY29
import Derived.Test.YtpnfhcnnodolbaaZY32
import Derived.Test.YtpnfhcnnodolbaaZY33
import Derived.Test.YtpnfhcnnodolbaaZProofsA37
set_option linter.unusedVariables false
set_option linter.unusedSimpArgs false
set_option linter.unusedSectionVars false
set_option linter.unnecessarySimpa false
set_option maxRecDepth 100000
namespace Go.Proofs.Ytpnfhcnnodolbaa
open Go Go.RowKit Game
theorem bstN_best {lt : Nat → Nat → Bool} {n : Nat} (irr : ∀ i, i < n → lt i i = false) (tr : ∀ i j k, i < n → j < n → k < n → lt i j = true → lt j k = true → lt i k = true) :
 ∀ k, k < n → ∀ j, j ≤ k → lt j (bstN lt k) = false
 | 0, h0, j, hj => by obtain rfl : j = 0 := by omega
                      exact irr 0 h0
 | k + 1, hk, j, hj => by
  have ih := bstN_best irr tr k (by omega)
  have hle := bstN_le lt k
  simp only [bstN]
  by_cases g : lt (k + 1) (bstN lt k) = true
  ·rw [if_pos g]
   by_cases e : j = k + 1
   ·subst e; exact irr _ hk
   ·rw [Bool.eq_false_iff]
    intro h
    have := tr j (k + 1) (bstN lt k) (by omega) hk (by omega) h g
    rw [ih j (by omega)] at this
    cases this
  ·rw [if_neg g]
   by_cases e : j = k + 1
   ·subst e; exact (Bool.eq_false_iff).2 g
   ·exact ih j (by omega)
theorem ltC_iff {l : List Met} {x y : List Int} (hx : Xok l x) (hy : Xok l y) : ltC l x y = decide (costN l x l.length * psum y < costN l y l.length * psum x) := rat_lt hx.pos hy.pos
theorem lt_trans3 {a b c p q r : Int} (hp : 0 < p) (hq : 0 < q) (hr : 0 < r) (h1 : a * q < b * p) (h2 : b * r < c * q) : a * r < c * p := by
 have e1 := Int.mul_lt_mul_of_pos_right h1 hr
 have e2 := Int.mul_lt_mul_of_pos_right h2 hp
 refine Int.lt_of_mul_lt_mul_right (a := q) ?_ (by omega)
 rw [show a * r * q = a * q * r by grind, show c * p * q = c * q * p by grind]
 rw [show b * p * r = b * r * p by grind] at e1
 exact Int.lt_trans e1 e2
theorem best_min {l : List Met} {L : List (List Int)} (hL : ∀ x ∈ L, Xok l x) (h0 : 0 < L.length) {y : List Int} (hy : y ∈ L) :
 ltC l y (row L (bstN (fun i j => ltC l (row L i) (row L j)) (L.length - 1))) = false := by
 have ok : ∀ i, i < L.length → Xok l (row L i) := fun i hi => hL _ (by rw [row_lt hi]; exact List.getElem_mem hi)
 obtain ⟨j, hj, e⟩ := List.getElem_of_mem hy
 have := bstN_best (lt := fun i j => ltC l (row L i) (row L j)) (n := L.length)
  (fun i hi => by rw [ltC_iff (ok i hi) (ok i hi), decide_eq_false_iff_not]; omega)
  (fun a b d ha hb hd h1 h2 => by
   rw [ltC_iff (ok a ha) (ok b hb), decide_eq_true_eq] at h1
   rw [ltC_iff (ok b hb) (ok d hd), decide_eq_true_eq] at h2
   rw [ltC_iff (ok a ha) (ok d hd), decide_eq_true_eq]
   exact lt_trans3 (ok a ha).pos (ok b hb).pos (ok d hd).pos h1 h2) (L.length - 1) (by omega) j (by omega)
 rw [← e, ← row_lt hj]
 exact this
theorem best_in {L : List (List Int)} (h0 : 0 < L.length) (lt : Nat → Nat → Bool) : row L (bstN lt (L.length - 1)) ∈ L := by
 have := bstN_le lt (L.length - 1)
 rw [row_lt (by omega)]
 exact List.getElem_mem _
theorem edges_zero {l : List Met} (v : VldM l) {u c : Int} (hu : 0 ≤ u ∧ u ≤ 1000) (hc : 0 ≤ c ∧ c ≤ 1000) (s : Bool) : (edP l u c s).length = 0 ↔ (edg l u c s).length = 0 := by
 constructor
 ·intro h
  have h1 := List.eq_nil_of_length_eq_zero h
  refine Classical.byContradiction fun g => ?_
  have := edg_sub v hu hc (s := s) (List.getElem_mem (show 0 < (edg l u c s).length by omega))
  rw [h1] at this; simp at this
 ·intro h
  have h1 := List.eq_nil_of_length_eq_zero h
  refine Classical.byContradiction fun g => ?_
  have := edP_sub v hu hc (s := s) (List.getElem_mem (show 0 < (edP l u c s).length by omega))
  rw [h1] at this; simp at this
theorem che_eq (l : List Met) (u c : Int) (s : Bool) : cheE l u c s = lrE l u c s := by
 unfold cheE lrE
 by_cases g : ¬ chkB l u c = 0
 ·rw [if_pos g, if_pos g]
 ·rw [if_neg g, if_neg g]
  obtain ⟨v, hu, hc⟩ := chkB_ok (Decidable.not_not.1 g)
  have := edges_zero v hu hc s
  by_cases h : (edP l u c s).length = 0
  ·rw [if_pos h, if_pos (this.1 h)]
  ·rw [if_neg h, if_neg (fun h' => h (this.2 h'))]
theorem least_eq (l : List Met) (u c : Int) (s : Bool) : lstN l u c s = lrN l u c s ∧ lstD l u c s = lrD l u c s := by
 have hE := che_eq l u c s
 unfold lstN lrN lstD lrD
 rw [← hE]
 by_cases g : cheE l u c s = 0
 ·rw [if_pos g, if_pos g, if_pos g, if_pos g]
  have gB : chkB l u c = 0 := by
   refine Classical.byContradiction fun h => ?_
   unfold cheE at g; rw [if_pos h] at g; exact h g
  obtain ⟨v, hu, hc⟩ := chkB_ok gB
  have h0 : 0 < (edP l u c s).length := by
   refine Classical.byContradiction fun h => ?_
   unfold cheE at g; rw [if_neg (fun h' => h' gB), if_pos (by omega)] at g; cases g
  have h0' : 0 < (edg l u c s).length := by have := edges_zero v hu hc s; omega
  have p1 := chp_mem h0
  have p2 : chR l u c s ∈ edg l u c s := best_in h0' _
  have o1 := (edP_ok v hu hc p1).1
  have o2 := (edg_ok v hu hc p2).1
  have m1 := best_min (fun x hx => (edP_ok v hu hc hx).1) h0 (edg_sub v hu hc p2)
  have m2 := best_min (fun x hx => (edg_ok v hu hc hx).1) h0' (edP_sub v hu hc p1)
  change ltC l (chR l u c s) (chpL l u c s) = false at m1
  change ltC l (chpL l u c s) (chR l u c s) = false at m2
  rw [ltC_iff o2 o1, decide_eq_false_iff_not] at m1
  rw [ltC_iff o1 o2, decide_eq_false_iff_not] at m2
  exact rat_eq o1.pos o2.pos (by omega)
 ·rw [if_neg g, if_neg g, if_neg g, if_neg g]
  exact ⟨rfl, rfl⟩
def exT (l : List Met) (u c : Int) (s : Bool) (i j : Nat) : Int := if j = 0 then - exA l u c s i else - exC l u c s i
structure Gx (l : List Met) (u c : Int) (s : Bool) (x : List Int) : Prop where
 len : x.length = l.length
 nn : ∀ i, 0 ≤ nth x i
 ps : 0 < psum x
 gd : isG l u c s x = true
theorem exT_sum {l : List Met} (u c : Int) (s : Bool) {x : List Int} (hl : x.length = l.length) :
 ag (exT l u c s) l.length (nth x) 0 = u * psum x - ledN l s x l.length ∧ ag (exT l u c s) l.length (nth x) 1 = copN l s x l.length - c * psum x := by
 constructor
 ·have e : ag (exT l u c s) l.length (nth x) 0 = sm l.length (fun i => u * nth x i + (-1) * (nth x i * badL (mtl l i) s)) := sm_congr fun i _ => by simp [exT, exA, spr]; grind
  rw [e, sm_lin (x := nth x) (z := fun i => nth x i * badL (mtl l i) s)]
  unfold ledN psum; rw [hl]; omega
 ·have e : ag (exT l u c s) l.length (nth x) 1 = sm l.length (fun i => (-c) * nth x i + 1 * (nth x i * goodC (mtl l i) s)) := sm_congr fun i _ => by simp [exT, exC, spr]; grind
  rw [e, sm_lin (x := nth x) (z := fun i => nth x i * goodC (mtl l i) s)]
  unfold copN psum; rw [hl, Int.neg_mul]; omega
theorem isG_iff {l : List Met} {u c : Int} {s : Bool} {x : List Int} (hl : x.length = l.length) : isG l u c s x = true ↔ Al (exT l u c s) l.length 2 (nth x) := by
 obtain ⟨a, b⟩ := exT_sum u c s hl
 unfold isG Al
 rw [Bool.and_eq_true, decide_eq_true_eq, decide_eq_true_eq]
 constructor
 ·intro h j hj
  obtain rfl | rfl : j = 0 ∨ j = 1 := by omega
  ·omega
  ·omega
 ·intro h
  have h0 := h 0 (by omega)
  have h1 := h 1 (by omega)
  omega
theorem ab_abs (p : Int) : ab p = absI p := by unfold ab absI; split <;> split <;> omega
theorem sgn2_of {a0 a1 : Int} (h : Gd [a0, a1]) : ((0 ≤ a0 ∧ 0 ≤ a1) ∨ (a0 ≤ 0 ∧ a1 ≤ 0)) ∧ (a0 ≠ 0 ∨ a1 ≠ 0) := by
 obtain ⟨⟨a, ha, hne⟩, hno⟩ := h
 constructor
 ·refine Classical.byContradiction fun hc => hno ?_
  have h1 : a0 < 0 ∨ a1 < 0 := by omega
  have h2 : 0 < a0 ∨ 0 < a1 := by omega
  exact ⟨h1.elim (fun h => ⟨a0, by simp, h⟩) (fun h => ⟨a1, by simp, h⟩), h2.elim (fun h => ⟨a0, by simp, h⟩) (fun h => ⟨a1, by simp, h⟩)⟩
 ·simp at ha; rcases ha with rfl | rfl
  ·exact .inl hne
  ·exact .inr hne
theorem sgn3_of {a0 a1 a2 : Int} (h : Gd [a0, a1, a2]) : ((0 ≤ a0 ∧ 0 ≤ a1 ∧ 0 ≤ a2) ∨ (a0 ≤ 0 ∧ a1 ≤ 0 ∧ a2 ≤ 0)) ∧ (a0 ≠ 0 ∨ a1 ≠ 0 ∨ a2 ≠ 0) := by
 obtain ⟨⟨a, ha, hne⟩, hno⟩ := h
 constructor
 ·refine Classical.byContradiction fun hc => hno ?_
  have h1 : a0 < 0 ∨ a1 < 0 ∨ a2 < 0 := by omega
  have h2 : 0 < a0 ∨ 0 < a1 ∨ 0 < a2 := by omega
  refine ⟨?_, ?_⟩
  ·rcases h1 with h | h | h
   ·exact ⟨a0, by simp, h⟩
   ·exact ⟨a1, by simp, h⟩
   ·exact ⟨a2, by simp, h⟩
  ·rcases h2 with h | h | h
   ·exact ⟨a0, by simp, h⟩
   ·exact ⟨a1, by simp, h⟩
   ·exact ⟨a2, by simp, h⟩
 ·simp at ha; rcases ha with rfl | rfl | rfl
  ·exact .inl hne
  ·exact .inr (.inl hne)
  ·exact .inr (.inr hne)
theorem sgnP2 {p0 p1 : Int} (h : (0 ≤ p0 ∧ 0 ≤ p1) ∨ (p0 ≤ 0 ∧ p1 ≤ 0)) (h2 : p0 ≠ 0 ∨ p1 ≠ 0) : SgnP 2 (nth [p0, p1]) := by
 refine ⟨?_, ?_⟩
 ·rcases h with h | h
  ·exact .inl (two_cases h.1 h.2)
  ·exact .inr (two_cases h.1 h.2)
 ·rcases h2 with h | h
  ·exact ⟨0, by omega, h⟩
  ·exact ⟨1, by omega, h⟩
theorem sgnP3 {p0 p1 p2 : Int} (h : (0 ≤ p0 ∧ 0 ≤ p1 ∧ 0 ≤ p2) ∨ (p0 ≤ 0 ∧ p1 ≤ 0 ∧ p2 ≤ 0)) (h2 : p0 ≠ 0 ∨ p1 ≠ 0 ∨ p2 ≠ 0) : SgnP 3 (nth [p0, p1, p2]) := by
 refine ⟨?_, ?_⟩
 ·rcases h with h | h
  ·exact .inl (three_cases h.1 h.2.1 h.2.2)
  ·exact .inr (three_cases h.1 h.2.1 h.2.2)
 ·rcases h2 with h | h | h
  ·exact ⟨0, by omega, h⟩
  ·exact ⟨1, by omega, h⟩
  ·exact ⟨2, by omega, h⟩
theorem put_eq {n : Nat} {t : List Nat} {p : List Int} (n1 : 1 ≤ n) (hs : SgnP p.length (nth p)) (ht : ∀ k, k < p.length → t.getD k 0 < n) (hd : ∀ j k, j < k → k < p.length → t.getD j 0 ≠ t.getD k 0)
 (e : Nat → Int) (h1 : ∀ k, k < p.length → e (t.getD k 0) = absI (nth p k)) (h2 : ∀ i, (∀ k, k < p.length → t.getD k 0 ≠ i) → e i = 0) : mkL n e = putL n t p := by
 have hl := (putL_iff (t := t) n1).2 hs
 refine list_ext_nth (by rw [mkL_len, hl]) fun i hi => ?_
 rw [mkL_len] at hi
 rw [mkL_nth _ hi, (putL_out n1 hl).1]
 by_cases g : ∃ k, k < p.length ∧ t.getD k 0 = i
 ·obtain ⟨k, hk, rfl⟩ := g
  rw [out_at ht hd _ (Nat.le_refl _) k hk, h1 k hk]
 ·have h3 : ∀ k, k < p.length → t.getD k 0 ≠ i := fun k hk e => g ⟨k, hk, e⟩
  rw [out_else h3 _ (Nat.le_refl _), h2 i h3]
theorem edge_in {l : List Met} (v : VldM l) {u c : Int} {s : Bool} {e : Nat → Int} (he : EdgeA (exT l u c s) l.length e) (hA : Al (exT l u c s) l.length 2 e) : mkL l.length e ∈ edg l u c s := by
 have n1 := v.n1
 have hg : isG l u c s (mkL l.length e) = true := by
  rw [isG_iff (mkL_len _ _)]
  intro j hj
  have := hA j hj
  rw [show ag (exT l u c s) l.length (nth (mkL l.length e)) j = ag (exT l u c s) l.length e j from sm_congr fun i hi => by rw [mkL_nth _ hi]]
  exact this
 refine edg_in ?_ (mkL_len _ _) hg
 rcases he with ⟨a, ha, rfl⟩ | ⟨a, b, j, hab, hb, hj, hGd, rfl⟩ | ⟨a, b, d, hab, hbd, hd, hGd, rfl⟩
 ·refine .inl ⟨a, ha, put_eq n1 (by refine ⟨.inl fun k hk => ?_, 0, by simp, by decide⟩; (have : k = 0 := by simpa using hk); subst this; decide) (fun k hk => ?_) (fun j k hjk hk => ?_) _ (fun k hk => ?_) (fun i hi => ?_)⟩
  ·have : k = 0 := by simpa using hk
   subst this; simpa using ha
  ·simp at hk; omega
  ·have : k = 0 := by simpa using hk
   subst this; simp [put, ab, absI, nth]
  ·have := hi 0 (by simp)
   simp only [List.getD_cons_zero] at this
   simp only [List.map, put, if_neg (Ne.symm this)]
 ·obtain ⟨h1, h2⟩ := sgn2_of hGd
  have hne : ¬ b = a := by omega
  have main : ∀ X : Nat → Int, (∀ i, exT l u c s i j = - X i) → mkL l.length (put [a, b] ([exT l u c s b j, - exT l u c s a j].map ab)) = putL l.length [b, a] [X a, - X b] := fun X hX => by
   rw [hX, hX] at h1 h2 ⊢
   refine put_eq (p := [X a, - X b]) n1 (sgnP2 (by omega) (by omega)) (fun k hk => ?_) (fun j k hjk hk => ?_) _ (fun k hk => ?_) (fun i hi => ?_)
   ·rcases k with _ | _ | k <;> simp at hk ⊢ <;> omega
   ·rcases k with _ | _ | k
    ·omega
    ·obtain rfl : j = 0 := by omega
     simp; omega
    ·simp at hk; omega
   ·rcases k with _ | _ | k
    ·simp only [List.getD_cons_zero, List.map, put, if_neg hne, if_true, nth_zero, ab_abs, Int.neg_neg]
    ·simp only [List.getD_cons_zero, List.getD_cons_succ, List.map, put, if_true, nth_succ, nth_zero, ab_abs]
    ·simp at hk; omega
   ·have i0 := hi 0 (by simp)
    have i1 := hi 1 (by simp)
    simp only [List.getD_cons_zero, List.getD_cons_succ] at i0 i1
    simp only [List.map, put, if_neg (Ne.symm i1), if_neg (Ne.symm i0)]
  refine .inr (.inl ⟨b, a, hab, hb, ?_⟩)
  obtain rfl | rfl : j = 0 ∨ j = 1 := by omega
  ·exact .inl (main (exA l u c s) fun i => by simp [exT])
  ·exact .inr (main (exC l u c s) fun i => by simp [exT])
 ·obtain ⟨h1, h2⟩ := sgn3_of hGd
  have hba : ¬ b = a := by omega
  have hda : ¬ d = a := by omega
  have hdb : ¬ d = b := by omega
  refine .inr (.inr ⟨d, b, a, hab, hbd, hd, ?_⟩)
  have hX : ∀ i, exT l u c s i 0 = - exA l u c s i := fun i => by simp [exT]
  have hY : ∀ i, exT l u c s i 1 = - exC l u c s i := fun i => by simp [exT]
  generalize hp0 : exT l u c s b 0 * exT l u c s d 1 - exT l u c s b 1 * exT l u c s d 0 = g0 at h1 h2 ⊢
  generalize hp1 : exT l u c s d 0 * exT l u c s a 1 - exT l u c s d 1 * exT l u c s a 0 = g1 at h1 h2 ⊢
  generalize hp2 : exT l u c s a 0 * exT l u c s b 1 - exT l u c s a 1 * exT l u c s b 0 = g2 at h1 h2 ⊢
  rw [hX, hX, hY, hY] at hp0 hp1 hp2
  have q0 : exA l u c s b * exC l u c s a - exC l u c s b * exA l u c s a = - g2 := by grind
  have q1 : exA l u c s a * exC l u c s d - exC l u c s a * exA l u c s d = - g1 := by grind
  have q2 : exA l u c s d * exC l u c s b - exC l u c s d * exA l u c s b = - g0 := by grind
  rw [q0, q1, q2]
  refine put_eq (p := [- g2, - g1, - g0]) n1 (sgnP3 (by omega) (by omega)) (fun k hk => ?_) (fun j k hjk hk => ?_) _ (fun k hk => ?_) (fun i hi => ?_)
  ·rcases k with _ | _ | _ | k <;> simp at hk ⊢ <;> omega
  ·rcases k with _ | _ | _ | k
   ·omega
   ·obtain rfl : j = 0 := by omega
    simp; omega
   ·have : j = 0 ∨ j = 1 := by omega
    rcases this with rfl | rfl <;> simp <;> omega
   ·simp at hk; omega
  ·rcases k with _ | _ | _ | k
   ·simp only [List.getD_cons_zero, List.map, put, if_neg hda, if_neg hdb, if_true, nth_zero, ab_abs, absI_neg]
   ·simp only [List.getD_cons_zero, List.getD_cons_succ, List.map, put, if_neg hba, if_true, nth_succ, nth_zero, ab_abs, absI_neg]
   ·simp only [List.getD_cons_zero, List.getD_cons_succ, List.map, put, if_true, nth_succ, nth_zero, ab_abs, absI_neg]
   ·simp at hk; omega
  ·have i0 := hi 0 (by simp)
   have i1 := hi 1 (by simp)
   have i2 := hi 2 (by simp)
   simp only [List.getD_cons_zero, List.getD_cons_succ] at i0 i1 i2
   simp only [List.map, put, if_neg (Ne.symm i2), if_neg (Ne.symm i1), if_neg (Ne.symm i0)]
def fsm (l : List Met) (f : Nat → Int) (x : List Int) : Int := sm l.length fun i => nth x i * f i
theorem edge_min {l : List Met} (v : VldM l) {u c : Int} {s : Bool} (f : Nat → Int) {x : List Int} (g : Gx l u c s x) : ∃ y, y ∈ edg l u c s ∧ fsm l f y * psum x ≤ fsm l f x * psum y := by
 have hx : Pl l.length (nth x) := ⟨fun i _ => g.nn i, by have := g.ps; unfold psum at this; rw [g.len] at this; exact this⟩
 obtain ⟨e, he, hp, hA, hle⟩ := edge_le f hx ((isG_iff g.len).1 g.gd)
 refine ⟨mkL l.length e, edge_in v he hA, ?_⟩
 have e1 : fsm l f (mkL l.length e) = co f l.length e := sm_congr fun i hi => by rw [mkL_nth _ hi]
 have e2 : psum (mkL l.length e) = sm l.length e := by unfold psum; rw [mkL_len]; exact sm_congr fun i hi => by rw [mkL_nth _ hi]
 have e3 : psum x = sm l.length (nth x) := by unfold psum; rw [g.len]
 rw [e1, e2, e3]
 exact hle
theorem edg_gx {l : List Met} (v : VldM l) {u c : Int} (hu : 0 ≤ u ∧ u ≤ 1000) (hc : 0 ≤ c ∧ c ≤ 1000) {s : Bool} {x : List Int} (h : x ∈ edg l u c s) : Gx l u c s x := by
 obtain ⟨a, b, _⟩ := edg_ok v hu hc h
 exact ⟨a.len, fun i => (a.prt i).1, a.pos, b⟩
theorem gx_che {l : List Met} {u c : Int} (hB : chkB l u c = 0) (s : Bool) : cheE l u c s = 0 ↔ ∃ x, Gx l u c s x := by
 obtain ⟨v, hu, hc⟩ := chkB_ok hB
 rw [che_eq]
 unfold lrE
 rw [if_neg (fun h => h hB)]
 constructor
 ·intro h
  have h0 : 0 < (edg l u c s).length := by
   refine Classical.byContradiction fun g => ?_
   rw [if_pos (by omega)] at h; cases h
  exact ⟨_, edg_gx v hu hc (List.getElem_mem h0)⟩
 ·rintro ⟨x, g⟩
  obtain ⟨y, hy, _⟩ := edge_min v (fun _ => 0) g
  have : (edg l u c s).length ≠ 0 := fun e => by
   have := List.eq_nil_of_length_eq_zero e
   rw [this] at hy; simp at hy
  rw [if_neg this]
theorem che_pos {l : List Met} {u c : Int} (hB : chkB l u c = 0) {s : Bool} (h : cheE l u c s = 0) : 0 < (edP l u c s).length := by
 refine Classical.byContradiction fun g => ?_
 unfold cheE at h
 rw [if_neg (fun h' => h' hB), if_pos (by omega)] at h; cases h
theorem chp_gx {l : List Met} {u c : Int} (hB : chkB l u c = 0) {s : Bool} (h : cheE l u c s = 0) : Gx l u c s (chpL l u c s) ∧ chpL l u c s ∈ edg l u c s := by
 obtain ⟨v, hu, hc⟩ := chkB_ok hB
 have := edP_sub v hu hc (chp_mem (che_pos hB h))
 exact ⟨edg_gx v hu hc this, this⟩
theorem chp_le {l : List Met} {u c : Int} (hB : chkB l u c = 0) {s : Bool} (h : cheE l u c s = 0) {x : List Int} (g : Gx l u c s x) :
 costN l (chpL l u c s) l.length * psum x ≤ costN l x l.length * psum (chpL l u c s) := by
 obtain ⟨v, hu, hc⟩ := chkB_ok hB
 obtain ⟨y, hy, hle⟩ := edge_min v (fun i => (mtl l i).p) g
 have o := edP_ok v hu hc (chp_mem (che_pos hB h))
 have oy := edg_ok v hu hc hy
 have m := best_min (fun x hx => (edP_ok v hu hc hx).1) (che_pos hB h) (edg_sub v hu hc hy)
 change ltC l y (chpL l u c s) = false at m
 rw [ltC_iff oy.1 o.1, decide_eq_false_iff_not] at m
 change costN l y l.length * psum x ≤ costN l x l.length * psum y at hle
 refine ratio_trans oy.1.pos o.1.pos g.ps (c := costN l y l.length) ?_ hle
 omega
theorem hld_at {l : List Met} {s : Bool} {d b le co : Int} : hld l s d b le co = true ↔ ∀ k, k < l.length → b - le * badL (mtl l k) s + co * goodC (mtl l k) s ≤ d * (mtl l k).p := by
 unfold hld
 rw [hldN_iff]
 simp only [hldM, decide_eq_true_eq]
theorem weak_val {l : List Met} {u c : Int} {s : Bool} {d b le co : Int} (h : hld l s d b le co = true) (h1 : 0 ≤ le) (h2 : 0 ≤ co) {x : List Int} (g : Gx l u c s x) :
 valP u c b le co * psum x ≤ d * costN l x l.length := by
 rw [hld_at] at h
 have hg := g.gd
 unfold isG at hg
 rw [Bool.and_eq_true, decide_eq_true_eq, decide_eq_true_eq] at hg
 obtain ⟨g1, g2⟩ := hg
 have e1 : psum x = sm l.length (nth x) := by unfold psum; rw [g.len]
 have k1 := Int.mul_le_mul_of_nonneg_left g1 h1
 have k2 := Int.mul_le_mul_of_nonneg_left g2 h2
 have k3 : sm l.length (fun i => nth x i * (b - le * badL (mtl l i) s + co * goodC (mtl l i) s)) ≤ sm l.length (fun i => nth x i * (d * (mtl l i).p)) := sm_le fun i hi => Int.mul_le_mul_of_nonneg_left (h i hi) (g.nn i)
 have e2 : sm l.length (fun i => nth x i * (d * (mtl l i).p)) = d * costN l x l.length := by
  unfold costN; rw [← sm_mul]; exact sm_congr fun i _ => by grind
 have e3 : sm l.length (fun i => nth x i * (b - le * badL (mtl l i) s + co * goodC (mtl l i) s)) = b * psum x + (-le) * ledN l s x l.length + co * copN l s x l.length := by
  rw [e1]; unfold ledN copN
  rw [← sm_mul, ← sm_mul, ← sm_mul, ← sm_add, ← sm_add]
  exact sm_congr fun i _ => by grind
 rw [e2, e3] at k3
 unfold valP
 have e4 : (b - le * u + co * c) * psum x = b * psum x - le * (u * psum x) + co * (c * psum x) := by grind
 rw [e4]
 rw [Int.neg_mul] at k3
 omega
def gS (l : List Met) (s : Bool) (i r : Nat) : Int := if i < l.length then rwN l s i r else - rwN l s i r
def bS (l : List Met) (i : Nat) : Int := (mtl l i).p
def vS (u c : Int) (i r : Nat) : Int := if r = 0 then 1 else if r = 1 then - u else c
theorem vS_at (u c : Int) (y : Nat → Int) : sd (vS u c) 0 y = y 0 - u * y 1 + c * y 2 := by unfold sd vS; simp; grind
theorem gS_sg (l : List Met) (s : Bool) (i : Nat) : ∃ σ : Int, (σ = 1 ∨ σ = -1) ∧ ∀ r, gS l s i r = σ * rwN l s i r := by
 by_cases g : i < l.length
 ·exact ⟨1, .inl rfl, fun r => by unfold gS; rw [if_pos g]; omega⟩
 ·exact ⟨-1, .inr rfl, fun r => by unfold gS; rw [if_neg g]; omega⟩
theorem sd_lo {l : List Met} {s : Bool} {i : Nat} (h : i < l.length) (y : Nat → Int) : sd (gS l s) i y = y 0 - badL (mtl l i) s * y 1 + goodC (mtl l i) s * y 2 := by
 unfold sd gS
 simp only [if_pos h]
 simp [rwN, h, rwM]; grind
theorem sd_n1 (l : List Met) (s : Bool) (y : Nat → Int) : sd (gS l s) l.length y = - y 1 := by
 unfold sd gS; simp [rwN]
theorem sd_n2 (l : List Met) (s : Bool) (y : Nat → Int) : sd (gS l s) (l.length + 1) y = - y 2 := by
 have h : ¬ l.length + 1 < l.length := by omega
 unfold sd gS; simp [rwN, h]
theorem gS_span {l : List Met} (v : VldM l) (s : Bool) : ∀ z : Nat → Int, (∃ j, j < 3 ∧ z j ≠ 0) → ∃ i, i < l.length + 2 ∧ sd (gS l s) i z ≠ 0 := by
 rintro z ⟨j, hj, hz⟩
 refine Classical.byContradiction fun hno => ?_
 have h0 : ∀ i, i < l.length + 2 → sd (gS l s) i z = 0 := fun i hi => Classical.byContradiction fun e => hno ⟨i, hi, e⟩
 have n1 := v.n1
 have a1 := h0 l.length (by omega)
 have a2 := h0 (l.length + 1) (by omega)
 have a0 := h0 0 (by omega)
 rw [sd_n1] at a1
 rw [sd_n2] at a2
 rw [sd_lo (by omega), show z 1 = 0 by omega, show z 2 = 0 by omega] at a0
 obtain rfl | rfl | rfl : j = 0 ∨ j = 1 ∨ j = 2 := by omega
 ·simp at a0; exact hz a0
 ·omega
 ·omega
theorem sd_rw {l : List Met} {s : Bool} {i : Nat} {y : Nat → Int} {D : Int} (h : sd (gS l s) i y = bS l i * D) : sd (rwN l s) i y = (mtl l i).p * D := by
 by_cases g : i < l.length
 ·have e : sd (gS l s) i y = sd (rwN l s) i y := by unfold sd gS; simp only [if_pos g]
  rw [← e]; exact h
 ·have e : sd (gS l s) i y = - sd (rwN l s) i y := by unfold sd gS; simp only [if_neg g]; grind
  have e2 : (mtl l i).p = 0 := by rw [mtl_ge (by omega)]
  unfold bS at h
  rw [e2] at h ⊢
  omega
theorem sd_rw0 {l : List Met} {s : Bool} {i : Nat} {y : Nat → Int} (h : sd (gS l s) i y = 0) : sd (rwN l s) i y = 0 := by
 by_cases g : i < l.length
 ·have e : sd (gS l s) i y = sd (rwN l s) i y := by unfold sd gS; simp only [if_pos g]
  rw [← e]; exact h
 ·have e : sd (gS l s) i y = - sd (rwN l s) i y := by unfold sd gS; simp only [if_neg g]; grind
  omega
theorem dN_poly (l : List Met) (s : Bool) (i k j : Nat) : dN l s i k j = rwN l s i 0 * (rwN l s k 1 * rwN l s j 2 - rwN l s k 2 * rwN l s j 1) + rwN l s i 1 * (rwN l s k 2 * rwN l s j 0 - rwN l s k 0 * rwN l s j 2) + rwN l s i 2 * (rwN l s k 0 * rwN l s j 1 - rwN l s k 1 * rwN l s j 0) := by
 unfold dN dtv crs; simp
theorem dN_ne {l : List Met} {s : Bool} {i j k : Nat} (h : det3 (gS l s) i j k ≠ 0) : dN l s i j k ≠ 0 := by
 intro e
 refine h ?_
 rw [dN_poly] at e
 obtain ⟨a, _, ha⟩ := gS_sg l s i
 obtain ⟨b, _, hb⟩ := gS_sg l s j
 obtain ⟨d, _, hd⟩ := gS_sg l s k
 unfold det3
 simp only [ha, hb, hd]
 generalize rwN l s i 0 = x0 at *; generalize rwN l s i 1 = x1 at *; generalize rwN l s i 2 = x2 at *
 generalize rwN l s j 0 = y0 at *; generalize rwN l s j 1 = y1 at *; generalize rwN l s j 2 = y2 at *
 generalize rwN l s k 0 = z0 at *; generalize rwN l s k 1 = z1 at *; generalize rwN l s k 2 = z2 at *
 have : a * x0 * (b * y1 * (d * z2) - d * z1 * (b * y2)) - b * y0 * (a * x1 * (d * z2) - d * z1 * (a * x2)) + d * z0 * (a * x1 * (b * y2) - b * y1 * (a * x2)) = a * b * d * (x0 * (y1 * z2 - y2 * z1) + x1 * (y2 * z0 - y0 * z2) + x2 * (y0 * z1 - y1 * z0)) := by grind
 rw [this, e, Int.mul_zero]
theorem dN_sw1 (l : List Met) (s : Bool) (i k j : Nat) : dN l s k i j = - dN l s i k j := by rw [dN_poly, dN_poly]; grind
theorem dN_sw2 (l : List Met) (s : Bool) (i k j : Nat) : dN l s i j k = - dN l s i k j := by rw [dN_poly, dN_poly]; grind
theorem sort3 {l : List Met} {s : Bool} {P : Nat → Prop} {a b c : Nat} (ha : P a) (hb : P b) (hc : P c) (h : dN l s a b c ≠ 0) : ∃ i k j, j < k ∧ k < i ∧ P i ∧ P k ∧ P j ∧ dN l s i k j ≠ 0 := by
 have s1 := dN_sw1 l s a b c
 have s2 := dN_sw2 l s a b c
 have s3 := dN_sw2 l s b a c
 have s4 := dN_sw1 l s a c b
 have s5 := dN_sw1 l s b c a
 have nab : a ≠ b := fun e => by subst e; omega
 have nbc : b ≠ c := fun e => by subst e; omega
 have nac : a ≠ c := fun e => by subst e; omega
 rcases Nat.lt_or_gt_of_ne nab with h1 | h1 <;> rcases Nat.lt_or_gt_of_ne nbc with h2 | h2 <;> rcases Nat.lt_or_gt_of_ne nac with h3 | h3
 ·exact ⟨c, b, a, h1, h2, hc, hb, ha, by omega⟩
 ·omega
 ·exact ⟨b, c, a, h3, h2, hb, hc, ha, by omega⟩
 ·exact ⟨b, a, c, h3, h1, hb, ha, hc, by omega⟩
 ·exact ⟨c, a, b, h1, h3, hc, ha, hb, by omega⟩
 ·exact ⟨a, c, b, h2, h3, ha, hc, hb, by omega⟩
 ·omega
 ·exact ⟨a, b, c, h2, h1, ha, hb, hc, h⟩
theorem crs_at (a b : Nat → Int) : crs a b 0 = a 1 * b 2 - a 2 * b 1 ∧ crs a b 1 = a 2 * b 0 - a 0 * b 2 ∧ crs a b 2 = a 0 * b 1 - a 1 * b 0 := by simp [crs]
theorem cramer {l : List Met} {s : Bool} {i k j : Nat} {y : Nat → Int} {D : Int} (hi : sd (rwN l s) i y = (mtl l i).p * D) (hk : sd (rwN l s) k y = (mtl l k).p * D) (hj : sd (rwN l s) j y = (mtl l j).p * D) :
 dN l s i k j * y 0 = D * xN l s i k j 0 ∧ dN l s i k j * y 1 = D * xN l s i k j 1 ∧ dN l s i k j * y 2 = D * xN l s i k j 2 := by
 rw [dN_poly]
 unfold xN
 obtain ⟨a0, a1, a2⟩ := crs_at (rwN l s k) (rwN l s j)
 obtain ⟨b0, b1, b2⟩ := crs_at (rwN l s j) (rwN l s i)
 obtain ⟨c0, c1, c2⟩ := crs_at (rwN l s i) (rwN l s k)
 rw [a0, a1, a2, b0, b1, b2, c0, c1, c2]
 unfold sd at hi hk hj
 clear a0 a1 a2 b0 b1 b2 c0 c1 c2
 generalize rwN l s i 0 = x0 at *; generalize rwN l s i 1 = x1 at *; generalize rwN l s i 2 = x2 at *
 generalize rwN l s k 0 = y0 at *; generalize rwN l s k 1 = y1 at *; generalize rwN l s k 2 = y2 at *
 generalize rwN l s j 0 = z0 at *; generalize rwN l s j 1 = z1 at *; generalize rwN l s j 2 = z2 at *
 generalize y 0 = Y0 at *; generalize y 1 = Y1 at *; generalize y 2 = Y2 at *
 generalize (mtl l i).p = p at *; generalize (mtl l k).p = q at *; generalize (mtl l j).p = r at *
 refine ⟨?_, ?_, ?_⟩
 ·have e : (x0 * (y1 * z2 - y2 * z1) + x1 * (y2 * z0 - y0 * z2) + x2 * (y0 * z1 - y1 * z0)) * Y0 = (x0 * Y0 + x1 * Y1 + x2 * Y2) * (y1 * z2 - y2 * z1) + (y0 * Y0 + y1 * Y1 + y2 * Y2) * (z1 * x2 - z2 * x1) + (z0 * Y0 + z1 * Y1 + z2 * Y2) * (x1 * y2 - x2 * y1) := by grind
  rw [e, hi, hk, hj]; grind
 ·have e : (x0 * (y1 * z2 - y2 * z1) + x1 * (y2 * z0 - y0 * z2) + x2 * (y0 * z1 - y1 * z0)) * Y1 = (x0 * Y0 + x1 * Y1 + x2 * Y2) * (y2 * z0 - y0 * z2) + (y0 * Y0 + y1 * Y1 + y2 * Y2) * (z2 * x0 - z0 * x2) + (z0 * Y0 + z1 * Y1 + z2 * Y2) * (x2 * y0 - x0 * y2) := by grind
  rw [e, hi, hk, hj]; grind
 ·have e : (x0 * (y1 * z2 - y2 * z1) + x1 * (y2 * z0 - y0 * z2) + x2 * (y0 * z1 - y1 * z0)) * Y2 = (x0 * Y0 + x1 * Y1 + x2 * Y2) * (y0 * z1 - y1 * z0) + (y0 * Y0 + y1 * Y1 + y2 * Y2) * (z0 * x1 - z1 * x0) + (z0 * Y0 + z1 * Y1 + z2 * Y2) * (x0 * y1 - x1 * y0) := by grind
  rw [e, hi, hk, hj]; grind
theorem cnQ_at {l : List Met} {s : Bool} {i k j : Nat} (h : dN l s i k j ≠ 0) : ∃ σ : Int, 0 < σ * dN l s i k j ∧ nth (cnQ l s i k j) 0 = σ * dN l s i k j ∧ nth (cnQ l s i k j) 1 = σ * xN l s i k j 0 ∧ nth (cnQ l s i k j) 2 = σ * xN l s i k j 1 ∧ nth (cnQ l s i k j) 3 = σ * xN l s i k j 2 := by
 by_cases g : dN l s i k j < 0
 ·exact ⟨-1, by omega, by unfold cnQ; rw [if_pos g]; simp [nth], by unfold cnQ; rw [if_pos g]; simp [nth], by unfold cnQ; rw [if_pos g]; simp [nth], by unfold cnQ; rw [if_pos g]; simp [nth]⟩
 ·exact ⟨1, by omega, by unfold cnQ; rw [if_neg g]; simp [nth], by unfold cnQ; rw [if_neg g]; simp [nth], by unfold cnQ; rw [if_neg g]; simp [nth], by unfold cnQ; rw [if_neg g]; simp [nth]⟩
theorem stP_mono {l : List Met} {s : Bool} {i k j : Nat} {L : PL} {x : List Int} (h : x ∈ L.map Prod.fst) : x ∈ (stP l s i k j L).map Prod.fst := by
 unfold stP; split
 ·exact h
 ·exact putP_mem.2 (.inl h)
theorem P3_mono {l : List Met} {s : Bool} {i k : Nat} {L : PL} {x : List Int} (h : x ∈ L.map Prod.fst) : ∀ j, x ∈ (P3 l s i k j L).map Prod.fst
 | 0 => h
 | j + 1 => stP_mono (P3_mono h j)
theorem P2_mono {l : List Met} {s : Bool} {i : Nat} {L : PL} {x : List Int} (h : x ∈ L.map Prod.fst) : ∀ k, x ∈ (P2 l s i k L).map Prod.fst
 | 0 => h
 | k + 1 => P3_mono (P2_mono h k) _
theorem P3_in {l : List Met} {s : Bool} {i k j : Nat} {L : PL} (hd : dN l s i k j ≠ 0) : ∀ {K}, j < K → cnQ l s i k j ∈ (P3 l s i k K L).map Prod.fst
 | K + 1, hj => by
  by_cases e : j = K
  ·subst e
   simp only [P3, stP, if_neg hd]
   exact putP_mem.2 (.inr rfl)
  ·exact stP_mono (P3_in hd (by omega))
theorem P2_in {l : List Met} {s : Bool} {i k j : Nat} {L : PL} (hd : dN l s i k j ≠ 0) (hj : j < k) : ∀ {K}, k < K → cnQ l s i k j ∈ (P2 l s i K L).map Prod.fst
 | K + 1, hk => by
  by_cases e : k = K
  ·subst e
   exact P3_in hd hj
  ·exact P3_mono (P2_in hd hj (by omega)) _
theorem P1_in {l : List Met} {s : Bool} {i k j : Nat} (hd : dN l s i k j ≠ 0) (hj : j < k) (hk : k < i) : ∀ {K}, i < K → cnQ l s i k j ∈ (P1 l s K).map Prod.fst
 | K + 1, hi => by
  by_cases e : i = K
  ·subst e
   exact P2_in hd hj hk
  ·exact P2_mono (P1_in hd hj hk (by omega)) _
theorem gdP_iff {l : List Met} {s : Bool} {x : List Int} : gdP l s x = true ↔ 0 ≤ nth x 2 ∧ 0 ≤ nth x 3 ∧ hld l s (nth x 0) (nth x 1) (nth x 2) (nth x 3) = true := by
 unfold gdP; rw [Bool.and_eq_true, Bool.and_eq_true, decide_eq_true_eq, decide_eq_true_eq]
theorem dual_y {l : List Met} (v : VldM l) {u c : Int} {s : Bool} {p : Nat → Int} {N D : Int} (hD : 0 ≤ D) (h : ∀ x, Gx l u c s x → N * psum x ≤ fsm l p x * D) :
 ∃ (y : Nat → Int) (Q : Int), 0 < Q ∧ 0 ≤ y 1 ∧ 0 ≤ y 2 ∧ (∀ i, i < l.length → y 0 - badL (mtl l i) s * y 1 + goodC (mtl l i) s * y 2 ≤ p i * (D * Q)) ∧ y 0 - u * y 1 + c * y 2 = N * Q := by
 obtain ⟨P, M, Q, hQ, hP, hM, hb⟩ := dual_pt (A := exT l u c s) (m := l.length) (c := p) (N := N) (D := D) fun x hx hA => by
  have e1 : sm l.length (nth (mkL l.length x)) = sm l.length x := sm_congr fun i hi => by rw [mkL_nth _ hi]
  have e2 : psum (mkL l.length x) = sm l.length x := by unfold psum; rw [mkL_len]; exact e1
  have e3 : fsm l p (mkL l.length x) = co p l.length x := sm_congr fun i hi => by rw [mkL_nth _ hi]
  have e4 : ∀ j, ag (exT l u c s) l.length (nth (mkL l.length x)) j = ag (exT l u c s) l.length x j := fun j => sm_congr fun i hi => by rw [mkL_nth _ hi]
  have := h (mkL l.length x) ⟨mkL_len _ _, fun i => by
   rcases Nat.lt_or_ge i l.length with g | g
   ·rw [mkL_nth _ g]; exact hx.nn i g
   ·rw [nth_mkL_out g]; omega, by rw [e2]; exact hx.ps, (isG_iff (mkL_len _ _)).2 fun j hj => by rw [e4]; exact hA j hj⟩
  rw [e2, e3] at this
  exact this
 refine ⟨fun j => if j = 0 then N * Q + u * P - c * M else if j = 1 then P else M, Q, hQ, by simpa using hP, by simpa using hM, fun i hi => ?_, by simp; omega⟩
 have := hb i hi
 simp only [exT, exA, exC, spr] at this
 simp at this ⊢
 have e : N * Q + u * P - c * M - badL (mtl l i) s * P + goodC (mtl l i) s * M - p i * (D * Q) = (-(badL (mtl l i) s - u)) * P + (-(c - goodC (mtl l i) s)) * M - (p i * D - N) * Q := by grind
 have e5 : (-(badL (mtl l i) s - u)) * P + (-(c - goodC (mtl l i) s)) * M = (u - badL (mtl l i) s) * P + (goodC (mtl l i) s - c) * M := by grind
 omega
set_option maxHeartbeats 1000000 in
theorem prF_some {l : List Met} {u c : Int} (hB : chkB l u c = 0) {s : Bool} (h : cheE l u c s = 0) : (prF l u c s).isSome = true := by
 obtain ⟨v, hu, hc⟩ := chkB_ok hB
 obtain ⟨gx, _⟩ := chp_gx hB h
 have hle := fun x (g : Gx l u c s x) => chp_le hB h g
 generalize hch : chpL l u c s = X at gx hle
 have hX := gx.ps
 obtain ⟨y, Q, hQ, hy1, hy2, hin, hval⟩ := dual_y v (p := fun i => (mtl l i).p) (N := costN l X l.length) (D := psum X) (by omega) fun x g => hle x g
 have hDQ : 0 < psum X * Q := Int.mul_pos hX hQ
 obtain ⟨y', D', i, j, k, hD', hin', hv', hi, hj, hk, hdet, ti, tj, tk⟩ := vertex (g := gS l s) (b := bS l) (K := l.length + 2) (vS u c) (gS_span v s) _ y (psum X * Q) rfl hDQ
  (fun i hi => by
   by_cases g : i < l.length
   ·rw [sd_lo g]; exact hin i g
   ·have e2 : bS l i = 0 := by unfold bS; rw [mtl_ge (by omega)]
    rw [e2, Int.zero_mul]
    obtain rfl | rfl : i = l.length ∨ i = l.length + 1 := by omega
    ·rw [sd_n1]; omega
    ·rw [sd_n2]; omega)
  (fun z E hE hz => by
   rw [vS_at, vS_at, hval]
   have z1 := hz l.length (by omega)
   have z2 := hz (l.length + 1) (by omega)
   have b1 : bS l l.length = 0 := by unfold bS; rw [mtl_ge (by omega)]
   have b2 : bS l (l.length + 1) = 0 := by unfold bS; rw [mtl_ge (by omega)]
   rw [sd_n1, b1, Int.zero_mul] at z1
   rw [sd_n2, b2, Int.zero_mul] at z2
   have hh : hld l s E (z 0) (z 1) (z 2) = true := hld_at.2 fun k hk => by
    have := hz k (by omega)
    rw [sd_lo hk] at this
    have e : bS l k = (mtl l k).p := rfl
    rw [e] at this
    have e1 : z 0 - z 1 * badL (mtl l k) s + z 2 * goodC (mtl l k) s = z 0 - badL (mtl l k) s * z 1 + goodC (mtl l k) s * z 2 := by grind
    rw [e1, Int.mul_comm E]; exact this
   have w := weak_val hh (by omega) (by omega) gx
   unfold valP at w
   have w2 := Int.mul_le_mul_of_nonneg_right w (Int.le_of_lt hQ)
   have e1 : (z 0 - u * z 1 + c * z 2) * (psum X * Q) = (z 0 - z 1 * u + z 2 * c) * psum X * Q := by grind
   have e2 : costN l X l.length * Q * E = E * costN l X l.length * Q := by grind
   rw [e1, e2]; exact w2)
 rw [vS_at, vS_at, hval] at hv'
 obtain ⟨i', k', j', hjk, hki, ⟨hi', ti'⟩, ⟨hk', tk'⟩, ⟨hj', tj'⟩, hd⟩ := sort3 (P := fun i => i < l.length + 2 ∧ sd (gS l s) i y' = bS l i * D') ⟨hi, ti⟩ ⟨hj, tj⟩ ⟨hk, tk⟩ (dN_ne hdet)
 obtain ⟨c0, c1, c2⟩ := cramer (sd_rw ti') (sd_rw tk') (sd_rw tj')
 obtain ⟨σ, hσ, q0, q1, q2, q3⟩ := cnQ_at hd
 have hmem := P1_in hd hjk hki hi'
 generalize cnQ l s i' k' j' = x at *
 generalize dN l s i' k' j' = d at *
 generalize xN l s i' k' j' 0 = x0 at *; generalize xN l s i' k' j' 1 = x1 at *; generalize xN l s i' k' j' 2 = x2 at *
 have r0 : D' * nth x 1 = nth x 0 * y' 0 := by rw [q0, q1]; grind
 have r1 : D' * nth x 2 = nth x 0 * y' 1 := by rw [q0, q2]; grind
 have r2 : D' * nth x 3 = nth x 0 * y' 2 := by rw [q0, q3]; grind
 have hx0 : 0 < nth x 0 := by omega
 have s1 := hin' l.length (by omega)
 have s2 := hin' (l.length + 1) (by omega)
 have b1 : bS l l.length = 0 := by unfold bS; rw [mtl_ge (by omega)]
 have b2 : bS l (l.length + 1) = 0 := by unfold bS; rw [mtl_ge (by omega)]
 rw [sd_n1, b1, Int.zero_mul] at s1
 rw [sd_n2, b2, Int.zero_mul] at s2
 have hg : gdP l s x = true := gdP_iff.2 ⟨by
  have := Int.mul_nonneg (Int.le_of_lt hx0) (show 0 ≤ y' 1 by omega)
  rw [← r1] at this
  exact Int.nonneg_of_mul_nonneg_right this hD', by
  have := Int.mul_nonneg (Int.le_of_lt hx0) (show 0 ≤ y' 2 by omega)
  rw [← r2] at this
  exact Int.nonneg_of_mul_nonneg_right this hD', hld_at.2 fun k hk => by
  have := hin' k (by omega)
  rw [sd_lo hk] at this
  have e : bS l k = (mtl l k).p := rfl
  rw [e] at this
  have w := Int.mul_le_mul_of_nonneg_left this (Int.le_of_lt hx0)
  refine Int.le_of_mul_le_mul_left (a := D') ?_ hD'
  have e1 : D' * (nth x 1 - nth x 2 * badL (mtl l k) s + nth x 3 * goodC (mtl l k) s) = nth x 0 * (y' 0 - badL (mtl l k) s * y' 1 + goodC (mtl l k) s * y' 2) := by
   have : D' * (nth x 1 - nth x 2 * badL (mtl l k) s + nth x 3 * goodC (mtl l k) s) = D' * nth x 1 - (D' * nth x 2) * badL (mtl l k) s + (D' * nth x 3) * goodC (mtl l k) s := by grind
   rw [this, r0, r1, r2]; grind
  rw [e1]
  have e2 : D' * (nth x 0 * (mtl l k).p) = nth x 0 * ((mtl l k).p * D') := by grind
  rw [e2]; exact w⟩
 have hm : mtP l u c s x = true := by
  unfold mtP
  rw [hch, decide_eq_true_eq]
  refine rat_eq hx0 hX ?_
  have e1 : D' * valU u c x = nth x 0 * (y' 0 - u * y' 1 + c * y' 2) := by
   unfold valU
   have : D' * (nth x 1 - nth x 2 * u + nth x 3 * c) = D' * nth x 1 - (D' * nth x 2) * u + (D' * nth x 3) * c := by grind
   rw [this, r0, r1, r2]; grind
  have hp : D' * Q ≠ 0 := by have := Int.mul_pos hD' hQ; omega
  refine Int.eq_of_mul_eq_mul_left hp ?_
  have e2 : D' * Q * (valU u c x * psum X) = (D' * valU u c x) * (psum X * Q) := by grind
  rw [e2, e1]
  have e3 : nth x 0 * (y' 0 - u * y' 1 + c * y' 2) * (psum X * Q) = nth x 0 * ((y' 0 - u * y' 1 + c * y' 2) * (psum X * Q)) := by grind
  rw [e3, hv']
  grind
 unfold prF
 rw [List.find?_isSome]
 obtain ⟨p, hp, rfl⟩ := List.mem_map.1 hmem
 exact ⟨p.1, List.mem_map.2 ⟨p, List.mem_filter.2 ⟨hp, hg⟩, rfl⟩, hm⟩
theorem stN_mono {l : List Met} {u c : Int} {s : Bool} {i k j : Nat} {L : PL} {x : List Int} (h : x ∈ L.map Prod.fst) : x ∈ (stN l u c s i k j L).map Prod.fst := by
 unfold stN; split
 ·exact putP_mem.2 (.inl h)
 ·exact h
theorem N3_mono {l : List Met} {u c : Int} {s : Bool} {i k : Nat} {L : PL} {x : List Int} (h : x ∈ L.map Prod.fst) : ∀ j, x ∈ (N3 l u c s i k j L).map Prod.fst
 | 0 => h
 | j + 1 => stN_mono (N3_mono h j)
theorem N2_mono {l : List Met} {u c : Int} {s : Bool} {i : Nat} {L : PL} {x : List Int} (h : x ∈ L.map Prod.fst) : ∀ k, x ∈ (N2 l u c s i k L).map Prod.fst
 | 0 => h
 | k + 1 => N3_mono (N2_mono h k) _
theorem N3_in {l : List Met} {u c : Int} {s : Bool} {i k q : Nat} {L : PL} (hd : 0 < valU u c (nvK l s i k q)) : ∀ {K}, q < K → nvK l s i k q ∈ (N3 l u c s i k K L).map Prod.fst
 | K + 1, hj => by
  by_cases e : q = K
  ·subst e
   simp only [N3, stN, if_pos hd]
   exact putP_mem.2 (.inr rfl)
  ·exact stN_mono (N3_in hd (by omega))
theorem N2_in {l : List Met} {u c : Int} {s : Bool} {i k q : Nat} {L : PL} (hd : 0 < valU u c (nvK l s i k q)) (hj : q < 2) : ∀ {K}, k < K → nvK l s i k q ∈ (N2 l u c s i K L).map Prod.fst
 | K + 1, hk => by
  by_cases e : k = K
  ·subst e
   exact N3_in hd hj
  ·exact N3_mono (N2_in hd hj (by omega)) _
theorem N1_in {l : List Met} {u c : Int} {s : Bool} {i k q : Nat} (hd : 0 < valU u c (nvK l s i k q)) (hj : q < 2) (hk : k < i) : ∀ {K}, i < K → nvK l s i k q ∈ (N1 l u c s K).map Prod.fst
 | K + 1, hi => by
  by_cases e : i = K
  ·subst e
   exact N2_in hd hj hk
  ·exact N2_mono (N1_in hd hj hk (by omega)) _
def GN (u c : Int) (x : List Int) : Prop := BdK x ∧ nth x 0 = 0 ∧ 0 < valU u c x
theorem stN_gn {l : List Met} (v : VldM l) (u c : Int) (s : Bool) (i k j : Nat) {L : PL} (h : PutL (GN u c) L) : PutL (GN u c) (stN l u c s i k j L) := by
 unfold stN
 split
 ·rename_i g
  exact h.put ⟨(nvK_ok v s i k j).2, by simp [nvK, nth], g⟩
 ·exact h
theorem N3_gn {l : List Met} (v : VldM l) (u c : Int) (s : Bool) (i k : Nat) : ∀ (j : Nat) {L : PL}, PutL (GN u c) L → PutL (GN u c) (N3 l u c s i k j L)
 | 0, _, h => h
 | j + 1, _, h => stN_gn v u c s i k j (N3_gn v u c s i k j h)
theorem N2_gn {l : List Met} (v : VldM l) (u c : Int) (s : Bool) (i : Nat) : ∀ (k : Nat) {L : PL}, PutL (GN u c) L → PutL (GN u c) (N2 l u c s i k L)
 | 0, _, h => h
 | k + 1, _, h => N3_gn v u c s i k 2 (N2_gn v u c s i k h)
theorem N1_gn {l : List Met} (v : VldM l) (u c : Int) (s : Bool) : ∀ i, PutL (GN u c) (N1 l u c s i)
 | 0 => PutL.nil _
 | i + 1 => N2_gn v u c s i i (N1_gn v u c s i)
theorem nvL_gn {l : List Met} (v : VldM l) {u c : Int} {s : Bool} {p : List Int × Int} (h : p ∈ nvL l u c s) : GN u c p.1 ∧ gdP l s p.1 = true := by
 have := List.mem_filter.1 h
 exact ⟨(N1_gn v u c s _).good p this.1, this.2⟩
theorem cr_sw (g : Nat → Nat → Int) (i k n : Nat) : cr g k i n = - cr g i k n := by unfold cr; repeat' split
                                                                                    all_goals grind
theorem crs_cr (l : List Met) (s : Bool) (i k n : Nat) : crs (rwN l s i) (rwN l s k) n = cr (rwN l s) i k n := by unfold crs cr; rfl
theorem cr_ne {l : List Met} {s : Bool} {i k n : Nat} (h : cr (gS l s) i k n ≠ 0) : cr (rwN l s) i k n ≠ 0 := by
 intro e
 refine h ?_
 obtain ⟨a, _, ha⟩ := gS_sg l s i
 obtain ⟨b, _, hb⟩ := gS_sg l s k
 have : cr (gS l s) i k n = a * b * cr (rwN l s) i k n := by unfold cr; simp only [ha, hb]; repeat' split
                                                             all_goals grind
 rw [this, e, Int.mul_zero]
set_option maxHeartbeats 1000000 in
theorem nev_some {l : List Met} {u c : Int} (hB : chkB l u c = 0) {s : Bool} (h : ¬ cheE l u c s = 0) : nvL l u c s ≠ [] := by
 obtain ⟨v, hu, hc⟩ := chkB_ok hB
 have hno : ∀ x, ¬ Gx l u c s x := fun x g => h ((gx_che hB s).2 ⟨x, g⟩)
 obtain ⟨y, Q, hQ, hy1, hy2, hin, hval⟩ := dual_y v (p := fun _ => 0) (N := 1) (D := 1) (by decide) fun x g => absurd g (hno x)
 obtain ⟨y', i, k, hin', hv', hi, hk, ti, tk, hcr⟩ := ray (g := gS l s) (K := l.length + 2) (vS u c) (gS_span v s) _ y rfl
  (fun i hi => by
   by_cases g : i < l.length
   ·rw [sd_lo g]; have := hin i g; omega
   ·obtain rfl | rfl : i = l.length ∨ i = l.length + 1 := by omega
    ·rw [sd_n1]; omega
    ·rw [sd_n2]; omega)
  (by rw [vS_at, hval]; omega)
 rw [vS_at] at hv'
 obtain ⟨m, hm, hcm⟩ := hcr
 replace hcm := cr_ne hcm
 -- in order
 obtain ⟨i, k, hki, hi, hk, ti, tk, hcm⟩ : ∃ i k, k < i ∧ i < l.length + 2 ∧ k < l.length + 2 ∧ sd (rwN l s) i y' = 0 ∧ sd (rwN l s) k y' = 0 ∧ cr (rwN l s) i k m ≠ 0 := by
  rcases Nat.lt_trichotomy i k with g | g | g
  ·exact ⟨k, i, g, hk, hi, sd_rw0 tk, sd_rw0 ti, by rw [cr_sw]; omega⟩
  ·subst g
   have := cr_sw (rwN l s) i i m
   omega
  ·exact ⟨i, k, g, hi, hk, sd_rw0 ti, sd_rw0 tk, hcm⟩
 obtain ⟨p1, p2, p3⟩ := ray_par ti tk
 have hpar : ∀ n, n < 3 → y' m * cr (rwN l s) i k n = y' n * cr (rwN l s) i k m := fun n hn => by
  obtain rfl | rfl | rfl : m = 0 ∨ m = 1 ∨ m = 2 := by omega
  all_goals obtain rfl | rfl | rfl : n = 0 ∨ n = 1 ∨ n = 2 := by omega
  all_goals first | rfl | assumption | (exact p1.symm) | (exact p2.symm) | (exact p3.symm)
 have hym : y' m ≠ 0 := fun e => by
  have h0 : ∀ n, n < 3 → y' n = 0 := fun n hn => by
   have := hpar n hn
   rw [e, Int.zero_mul] at this
   rcases Int.mul_eq_zero.1 this.symm with h' | h'
   ·exact h'
   ·exact absurd h' hcm
  rw [h0 0 (by omega), h0 1 (by omega), h0 2 (by omega)] at hv'
  simp at hv'
 -- the way
 obtain ⟨q, τ, hq, hτ, hsg⟩ : ∃ (q : Nat) (τ : Int), q < 2 ∧ (τ = if q = 0 then 1 else -1) ∧ 0 < y' m * (τ * cr (rwN l s) i k m) := by
  have hne : y' m * cr (rwN l s) i k m ≠ 0 := fun e => by rcases Int.mul_eq_zero.1 e with h' | h' <;> omega
  rcases Int.lt_or_gt_of_ne hne with g | g
  ·exact ⟨1, -1, by omega, rfl, by rw [show y' m * (-1 * cr (rwN l s) i k m) = -(y' m * cr (rwN l s) i k m) by grind]; omega⟩
  ·exact ⟨0, 1, by omega, rfl, by rw [Int.one_mul]; omega⟩
 have e0 : nth (nvK l s i k q) 0 = 0 := by simp [nvK, nth]
 have e1 : nth (nvK l s i k q) 1 = τ * cr (rwN l s) i k 0 := by simp only [nvK, crs_cr, ← hτ]; simp [nth]
 have e2 : nth (nvK l s i k q) 2 = τ * cr (rwN l s) i k 1 := by simp only [nvK, crs_cr, ← hτ]; simp [nth]
 have e3 : nth (nvK l s i k q) 3 = τ * cr (rwN l s) i k 2 := by simp only [nvK, crs_cr, ← hτ]; simp [nth]
 have q0 := hpar 0 (by omega)
 have q1 := hpar 1 (by omega)
 have q2 := hpar 2 (by omega)
 have s1 := hin' l.length (by omega)
 have s2 := hin' (l.length + 1) (by omega)
 rw [sd_n1] at s1
 rw [sd_n2] at s2
 have hval2 : y' m * y' m * valU u c (nvK l s i k q) = (y' m * (τ * cr (rwN l s) i k m)) * (y' 0 - u * y' 1 + c * y' 2) := by
  unfold valU
  rw [e1, e2, e3]
  have : y' m * y' m * (τ * cr (rwN l s) i k 0 - τ * cr (rwN l s) i k 1 * u + τ * cr (rwN l s) i k 2 * c) = y' m * τ * (y' m * cr (rwN l s) i k 0) - y' m * τ * (y' m * cr (rwN l s) i k 1) * u + y' m * τ * (y' m * cr (rwN l s) i k 2) * c := by grind
  rw [this, q0, q1, q2]; grind
 have hsq : 0 < y' m * y' m := by
  rcases Int.lt_or_gt_of_ne hym with g | g
  ·exact Int.mul_pos_of_neg_of_neg g g
  ·exact Int.mul_pos g g
 have hv2 : 0 < valU u c (nvK l s i k q) := by
  have := Int.mul_pos hsg hv'
  rw [← hval2] at this
  exact Int.lt_of_mul_lt_mul_left (a := y' m * y' m) (by rw [Int.mul_zero]; exact this) (Int.le_of_lt hsq)
 have pos : ∀ (a b : Int), y' m * y' m * a = (y' m * (τ * cr (rwN l s) i k m)) * b → 0 ≤ b → 0 ≤ a := fun a b e hb => by
  have := Int.mul_nonneg (Int.le_of_lt hsg) hb
  rw [← e] at this
  exact Int.nonneg_of_mul_nonneg_right this hsq
 have hg : gdP l s (nvK l s i k q) = true := gdP_iff.2 ⟨by
  rw [e2]
  refine pos _ (y' 1) ?_ (by omega)
  have : y' m * y' m * (τ * cr (rwN l s) i k 1) = y' m * τ * (y' m * cr (rwN l s) i k 1) := by grind
  rw [this, q1]; grind, by
  rw [e3]
  refine pos _ (y' 2) ?_ (by omega)
  have : y' m * y' m * (τ * cr (rwN l s) i k 2) = y' m * τ * (y' m * cr (rwN l s) i k 2) := by grind
  rw [this, q2]; grind, hld_at.2 fun j hj => by
  have h1 := hin' j (by omega)
  rw [sd_lo hj] at h1
  rw [e0, e1, e2, e3, Int.zero_mul]
  have := pos (-(τ * cr (rwN l s) i k 0 - τ * cr (rwN l s) i k 1 * badL (mtl l j) s + τ * cr (rwN l s) i k 2 * goodC (mtl l j) s)) (-(y' 0 - badL (mtl l j) s * y' 1 + goodC (mtl l j) s * y' 2)) (by
   have : y' m * y' m * (-(τ * cr (rwN l s) i k 0 - τ * cr (rwN l s) i k 1 * badL (mtl l j) s + τ * cr (rwN l s) i k 2 * goodC (mtl l j) s)) = -(y' m * τ * (y' m * cr (rwN l s) i k 0) - y' m * τ * (y' m * cr (rwN l s) i k 1) * badL (mtl l j) s + y' m * τ * (y' m * cr (rwN l s) i k 2) * goodC (mtl l j) s) := by grind
   rw [this, q0, q1, q2]; grind) (by omega)
  omega⟩
 have hmem := N1_in hv2 hq hki hi
 obtain ⟨p, hp, e⟩ := List.mem_map.1 hmem
 intro hnil
 have : p ∈ nvL l u c s := List.mem_filter.2 ⟨hp, by rw [e]; exact hg⟩
 rw [hnil] at this
 simp at this
theorem bdK_pf {x : List Int} (h : BdK x) (h1 : 0 ≤ nth x 2) (h2 : 0 ≤ nth x 3) : isPf (nth x 1) (nth x 2) (nth x 3) = true := by
 obtain ⟨_, a, b, c⟩ := h
 exact isPf_iff.2 ⟨a, ⟨h1, b.2⟩, h2, c.2⟩
theorem nvr_no {l : List Met} {u c : Int} {s : Bool} {d b le co : Int} (h : nvrE l u c s d b le co = 0) : chkB l u c = 0 ∧ ∀ x, ¬ Gx l u c s x := by
 unfold nvrE at h
 by_cases g : ¬ chkB l u c = 0
 ·rw [if_pos g] at h; exact absurd h g
 rw [if_neg g] at h
 by_cases g1 : d = 0 ∧ isPf b le co = true
 ·rw [if_neg (fun e => e g1)] at h
  by_cases g2 : hld l s d b le co = true ∧ 0 < valP u c b le co
  ·refine ⟨Decidable.not_not.1 g, fun x gx => ?_⟩
   obtain ⟨p1, p2, p3⟩ := isPf_iff.1 g1.2
   have w := weak_val g2.1 p2.1 p3.1 gx
   rw [g1.1, Int.zero_mul] at w
   have := Int.mul_pos g2.2 gx.ps
   omega
  ·rw [if_neg g2] at h; cases h
 ·rw [if_pos g1] at h; cases h
theorem nv_spec {l : List Met} {u c : Int} (hB : chkB l u c = 0) (s : Bool) :
 (cheE l u c s = 0 → nvEr l u c s = 5 ∧ nvX l u c s = [0, 0, 0, 0]) ∧
 (¬ cheE l u c s = 0 → nvEr l u c s = 0 ∧ nvrE l u c s (nth (nvX l u c s) 0) (nth (nvX l u c s) 1) (nth (nvX l u c s) 2) (nth (nvX l u c s) 3) = 0) := by
 obtain ⟨v, hu, hc⟩ := chkB_ok hB
 have key : ∀ p ∈ nvL l u c s, nvrE l u c s (nth p.1 0) (nth p.1 1) (nth p.1 2) (nth p.1 3) = 0 := fun p hp => by
  obtain ⟨⟨b1, b2, b3⟩, hg⟩ := nvL_gn v hp
  obtain ⟨g1, g2, g3⟩ := gdP_iff.1 hg
  unfold nvrE
  rw [if_neg (fun e => e hB), if_neg (fun e => e ⟨b2, bdK_pf b1 g1 g2⟩), if_pos ⟨g3, b3⟩]
 unfold nvEr nvX
 rw [if_pos hB, if_pos hB]
 constructor
 ·intro h
  obtain ⟨x, gx⟩ := (gx_che hB s).1 h
  have : nvL l u c s = [] := by
   refine Classical.byContradiction fun hne => ?_
   obtain ⟨p, t, e⟩ := List.exists_cons_of_ne_nil hne
   exact (nvr_no (key p (by rw [e]; simp))).2 x gx
  rw [this]; exact ⟨rfl, rfl⟩
 ·intro h
  have hne := nev_some hB h
  obtain ⟨p, t, e⟩ := List.exists_cons_of_ne_nil hne
  have := key p (by rw [e]; simp)
  rw [e]
  exact ⟨rfl, this⟩
theorem pr_spec {l : List Met} {u c : Int} (hB : chkB l u c = 0) (s : Bool) :
 (cheE l u c s = 0 → proEr l u c s = 0 ∧ prfE l u c s (nth (proX l u c s) 0) (nth (proX l u c s) 1) (nth (proX l u c s) 2) (nth (proX l u c s) 3) = 0 ∧ prfNE l u c s (nth (proX l u c s) 0) (nth (proX l u c s) 1) (nth (proX l u c s) 2) (nth (proX l u c s) 3) = lstN l u c s ∧ prfDE l u c s (nth (proX l u c s) 0) (nth (proX l u c s) 1) (nth (proX l u c s) 2) (nth (proX l u c s) 3) = lstD l u c s ∧ BdK (proX l u c s)) ∧
 (¬ cheE l u c s = 0 → proEr l u c s = cheE l u c s ∧ proX l u c s = [0, 0, 0, 0]) := by
 obtain ⟨v, hu, hc⟩ := chkB_ok hB
 constructor
 ·intro h
  have hs := prF_some hB h
  obtain ⟨x, hx⟩ := Option.isSome_iff_exists.1 hs
  have e : proX l u c s = x := by unfold proX; rw [if_pos h, hx]; rfl
  have h1 : mtP l u c s x = true := by unfold prF at hx; exact List.find?_some hx
  have h2 : x ∈ (prL l s).map Prod.fst := by unfold prF at hx; exact List.mem_of_find?_eq_some hx
  have gp := prL_gp v s h2
  obtain ⟨p, hp, e2⟩ := List.mem_map.1 h2
  have hg := (List.mem_filter.1 hp).2
  rw [e2] at hg
  obtain ⟨g1, g2, g3⟩ := gdP_iff.1 hg
  have hE : prfE l u c s (nth x 0) (nth x 1) (nth x 2) (nth x 3) = 0 := by
   unfold prfE
   rw [if_neg (fun e => e hB), if_neg (fun e => e ⟨by unfold dnB; rw [Bool.and_eq_true, decide_eq_true_eq, decide_eq_true_eq]; exact ⟨gp.2, gp.1.1.2⟩, bdK_pf gp.1 g1 g2⟩), if_pos g3]
  unfold mtP at h1
  rw [decide_eq_true_eq] at h1
  rw [e]
  refine ⟨by unfold proEr; rw [if_pos h, hs]; rfl, hE, ?_, ?_, gp.1⟩
  ·unfold prfNE lstN; rw [if_pos hE, if_pos h]; exact h1.1
  ·unfold prfDE lstD; rw [if_pos hE, if_pos h]; exact h1.2
 ·intro h
  exact ⟨by unfold proEr; rw [if_neg h], by unfold proX; rw [if_neg h]⟩
theorem nve_eq (l : List Met) (u c : Int) (s : Bool) : nvEr l u c s = nevE l u c s := by
 by_cases hB : chkB l u c = 0
 ·have h1 := nv_spec hB s
  obtain ⟨v, hu, hc⟩ := chkB_ok hB
  have h2 := edges_zero v hu hc s
  unfold nevE
  rw [if_neg (fun e => e hB)]
  by_cases h : cheE l u c s = 0
  ·rw [(h1.1 h).1, if_neg]
   have := che_pos hB h
   omega
  ·rw [(h1.2 h).1, if_pos]
   refine Classical.byContradiction fun g => h ?_
   unfold cheE
   rw [if_neg (fun e => e hB), if_neg (fun e => g (h2.1 e))]
 ·unfold nvEr nevE
  rw [if_neg hB, if_pos hB]
theorem pre_eq (l : List Met) (u c : Int) (s : Bool) : proEr l u c s = cheE l u c s := by
 by_cases h : cheE l u c s = 0
 ·have hB : chkB l u c = 0 := Classical.byContradiction fun g => by unfold cheE at h; rw [if_pos g] at h; exact g h
  rw [((pr_spec hB s).1 h).1, h]
 ·unfold proEr; rw [if_neg h]
theorem che_chk {l : List Met} {u c : Int} {s : Bool} (h : cheE l u c s = 0) : chkB l u c = 0 := Classical.byContradiction fun g => by unfold cheE at h; rw [if_pos g] at h; exact g h
theorem proX_zero {l : List Met} {u c : Int} {s : Bool} (h : ¬ cheE l u c s = 0) : proX l u c s = [0, 0, 0, 0] := by unfold proX; rw [if_neg h]
theorem nvX_zero {l : List Met} {u c : Int} {s : Bool} (h : ¬ nvEr l u c s = 0) : nvX l u c s = [0, 0, 0, 0] := by
 by_cases hB : chkB l u c = 0
 ·by_cases g : cheE l u c s = 0
  ·exact ((nv_spec hB s).1 g).2
  ·exact absurd ((nv_spec hB s).2 g).1 h
 ·unfold nvX; rw [if_neg hB]
theorem nvX_ok {l : List Met} {u c : Int} {s : Bool} (h : nvEr l u c s = 0) : nvrE l u c s (nth (nvX l u c s) 0) (nth (nvX l u c s) 1) (nth (nvX l u c s) 2) (nth (nvX l u c s) 3) = 0 := by
 by_cases hB : chkB l u c = 0
 ·by_cases g : cheE l u c s = 0
  ·rw [((nv_spec hB s).1 g).1] at h; cases h
  ·exact ((nv_spec hB s).2 g).2
 ·unfold nvEr at h; rw [if_neg hB] at h; exact absurd h hB
theorem nvr_five {l : List Met} {u c : Int} {s : Bool} (h : cheE l u c s = 0) : nvEr l u c s = 5 ∧ nvX l u c s = [0, 0, 0, 0] := (nv_spec (che_chk h) s).1 h
set_option maxHeartbeats 40000000 in
theorem stQ8 {A_ : Act} {yB yD yE yG yI yN yP yR yT yU yV yW yX yY yZ zA zB zC zD zE zF zG zH zI zJ zK zL zM zN zO zP zQ zR zS zT zU zV zW zX zY zZ uA uB uC uD uE uF uG uH uI uJ uK uL uM uN uO uP uQ uR uS uT uU uV uW uX uY uZ iA iB iC iD iE iF iG iH iI iJ iK iL iM iN iO iP iQ iR iS iT iU iV iW iX iY iZ oA oB oC oD oE oF oG oH oI oJ oK oL oM oN oO oP oQ oR oS oT oU oV oW oX oY oZ qA qB qC qD qE qF qG qH qI qJ qK qL qM qN qO qP qQ : Value} {l : List Met} {a : Option Addr} {n cap T Q B9 B11 : Nat} {u c d b le co Pn Pd Pe E NE NR : Int} {s : Bool} {w : World} (hA0_ : A_ = { tmps := #[.slice a n cap, yB, .bool s, yD, yE, .pointer (some ⟨T, 0, none⟩), yG, .pointer (some ⟨Q, 0, none⟩), yI, .pointer (some ⟨B9, 0, none⟩), .int .i64 Pe, .pointer (some ⟨B11, 0, none⟩), .int .i64 Pe, yN, .int .i64 E, yP, .int .i64 E, yR, .int .i64 NR, yT, yU, yV, yW, yX, yY, yZ, zA, zB, zC, zD, zE, zF, zG, zH, zI, zJ, zK, zL, zM, zN, zO, zP, zQ, zR, zS, zT, zU, zV, zW, zX, zY, zZ, uA, uB, uC, uD, uE, uF, uG, uH, uI, uJ, uK, uL, uM, uN, uO, uP, uQ, uR, uS, uT, uU, uV, uW, uX, uY, uZ, iA, iB, iC, iD, iE, iF, iG, iH, iI, iJ, iK, iL, iM, iN, iO, iP, iQ, iR, iS, iT, iU, iV, iW, iX, iY, iZ, oA, oB, oC, oD, oE, oF, oG, oH, oI, oJ, oK, oL, oM, oN, oO, oP, oQ, oR, oS, oT, oU, oV, oW, oX, oY, oZ, qA, qB, qC, qD, qE, qF, qG, qH, qI, qJ, qK, qL, qM, qN, qO, qP, qQ], defers := [] }) (hd1 : ∀ W, Mts W a l → Calls Try.prog 37 #[.slice a n cap, .agg #[.int .i64 u, .int .i64 c], .bool s, .agg #[.int .i64 d, .int .i64 b, .int .i64 le, .int .i64 co]] W fun e w' => e = .returned (.int .i64 NE) ∧ Ext W w') (hd2 : ∀ W, Mts W a l → Calls Try.prog 38 #[.slice a n cap, .agg #[.int .i64 u, .int .i64 c], .bool s, .agg #[.int .i64 d, .int .i64 b, .int .i64 le, .int .i64 co]] W fun e w' => e = .returned (.int .i64 NE) ∧ Ext W w') (hd3 : ∀ W, Mts W a l → Calls Try.prog 39 #[.slice a n cap, .agg #[.int .i64 u, .int .i64 c], .bool s] W fun e w' => e = .returned (.int .i64 NR) ∧ Ext W w') (hm : Mts w a l) (t0 : w.cell? ⟨T, 0, none⟩ = some (.int .i64 u)) (t1 : w.cell? ⟨T, 1, none⟩ = some (.int .i64 c)) (p0 : w.cell? ⟨Q, 0, none⟩ = some (.int .i64 d)) (p1 : w.cell? ⟨Q, 1, none⟩ = some (.int .i64 b)) (p2 : w.cell? ⟨Q, 2, none⟩ = some (.int .i64 le)) (p3 : w.cell? ⟨Q, 3, none⟩ = some (.int .i64 co)) (b9_0 : w.cell? ⟨B9, 0, none⟩ = some (.int .i64 Pn)) (b9_1 : w.cell? ⟨B9, 1, none⟩ = some (.int .i64 Pd)) (b11_0 : w.cell? ⟨B11, 0, none⟩ = some (.int .i64 Pn)) (b11_1 : w.cell? ⟨B11, 1, none⟩ = some (.int .i64 Pd)) :
 Code.wp Try.prog (rgn Try.f5 8) (fun e a' w' => e = .normal ∧ a' = ({ tmps := #[.slice a n cap,yB,.bool s,yD,yE,.pointer (some ⟨T, 0, none⟩),yG,.pointer (some ⟨Q, 0, none⟩),yI,.pointer (some ⟨B9, 0, none⟩),.int .i64 Pe,.pointer (some ⟨B11, 0, none⟩),.int .i64 Pe,yN,.int .i64 E,yP,.int .i64 E,yR,.int .i64 NR,yT,yU,yV,yW,yX,yY,yZ,zA,zB,zC,zD,zE,zF,zG,zH,zI,zJ,zK,zL,zM,zN,zO,zP,zQ,zR,zS,zT,zU,zV,zW,zX,zY,zZ,uA,uB,uC,uD,uE,uF,uG,uH,uI,.agg #[.int .i64 Pn, .int .i64 Pd],.agg #[.int .i64 Pn, .int .i64 Pd],.bool false,.bool false,.int .i64 Pe,.int .i64 Pe,.bool false,.bool false,.bool false,.slice a n cap,.agg #[.int .i64 u, .int .i64 c],.bool s,.agg #[.int .i64 d, .int .i64 b, .int .i64 le, .int .i64 co],.int .i64 NE,.slice a n cap,.agg #[.int .i64 u, .int .i64 c],.bool s,.agg #[.int .i64 d, .int .i64 b, .int .i64 le, .int .i64 co],.int .i64 NE,.bool false,.bool false,.bool false,.int .i64 E,.int .i64 E,.bool false,.bool false,.bool false,.int .i64 NR,.slice a n cap,.agg #[.int .i64 u, .int .i64 c],.bool s,.int .i64 NR,.bool false,.bool false,iR,iS,iT,iU,iV,iW,iX,iY,iZ,oA,oB,oC,oD,oE,oF,oG,oH,oI,oJ,oK,oL,oM,oN,oO,oP,oQ,oR,oS,oT,oU,oV,oW,oX,oY,oZ,qA,qB,qC,qD,qE,qF,qG,qH,qI,qJ,qK,qL,qM,qN,qO,qP,qQ], defers := [] } : Act) ∧ Ext w w') A_ w := by
 conv => arg 2; whnf
 refine st_intro (fun Q2 hQ2 => ?_)
 have hA_ := hid hA0_
 clear hA0_
 have hpan : ∀ c a a' w w', Q2 (.panic c) a w → Q2 (.panic c) a' w' := by rw [hQ2]; rintro c a a' w w' ⟨h, _⟩; cases h
 replace hQ2 := hid hQ2
 replace hd1 := hid hd1
 replace hd2 := hid hd2
 replace hd3 := hid hd3
 replace hm := hid hm
 have heq : ∀ (p q : Int) w, (Op.equalIn 10000 29 (.agg #[.int .i64 p, .int .i64 q]) (.agg #[.int .i64 p, .int .i64 q])).run Try.prog w = .ok true w := fun p q w => by rw [run_eqRatio]; simp
 have hRD_ := hid (fun w' (x_ : Ext w w') => And.intro (Ext.cell x_ t0) (And.intro (Ext.cell x_ t1) (And.intro (Ext.cell x_ p0) (And.intro (Ext.cell x_ p1) (And.intro (Ext.cell x_ p2) (And.intro (Ext.cell x_ p3) (And.intro (Ext.cell x_ b9_0) (And.intro (Ext.cell x_ b9_1) (And.intro (Ext.cell x_ b11_0) (Ext.cell x_ b11_1))))))))))
 refine wp_region_held_drew (S := fun w' => Ext w w') (by kernel_rfl) exE fun hHeld => ?_
 try simp only [List.append_eq, List.cons_append, List.nil_append]
 refine name_any (fun W0 hW => ?_)
 have s0 : Ext w W0 := by rw [hW]; exact hHeld
 clear hW hHeld
 refine wpF_intro 34 (by kernel_rfl) (fun F hF => ?_)
 replace hF := hid hF
 have N1_0 : ∀ (f_ : Nat) (l_ : Array Bool) (W0 : World) (a_ : Act), f_ = 3 → l_ = #[true, true, true, true, true, true, true, true, true, true, true, true, true, true, true, true, true, true, true, true, true, true, true, true, true, true, true, true, true, true, true, false, false, false] → a_ = ({ tmps := #[.slice a n cap,yB,.bool s,yD,yE,.pointer (some ⟨T, 0, none⟩),yG,.pointer (some ⟨Q, 0, none⟩),yI,.pointer (some ⟨B9, 0, none⟩),.int .i64 Pe,.pointer (some ⟨B11, 0, none⟩),.int .i64 Pe,yN,.int .i64 E,yP,.int .i64 E,yR,.int .i64 NR,yT,yU,yV,yW,yX,yY,yZ,zA,zB,zC,zD,zE,zF,zG,zH,zI,zJ,zK,zL,zM,zN,zO,zP,zQ,zR,zS,zT,zU,zV,zW,zX,zY,zZ,uA,uB,uC,uD,uE,uF,uG,uH,uI,.agg #[.int .i64 Pn, .int .i64 Pd],.agg #[.int .i64 Pn, .int .i64 Pd],.bool false,.bool false,.int .i64 Pe,.int .i64 Pe,.bool false,.bool false,.bool false,.slice a n cap,.agg #[.int .i64 u, .int .i64 c],.bool s,.agg #[.int .i64 d, .int .i64 b, .int .i64 le, .int .i64 co],.int .i64 NE,.slice a n cap,.agg #[.int .i64 u, .int .i64 c],.bool s,.agg #[.int .i64 d, .int .i64 b, .int .i64 le, .int .i64 co],.int .i64 NE,.bool false,.bool false,.bool false,.int .i64 E,.int .i64 E,.bool false,.bool false,.bool false,.int .i64 NR,.slice a n cap,.agg #[.int .i64 u, .int .i64 c],.bool s,iO,iP,iQ,iR,iS,iT,iU,iV,iW,iX,iY,iZ,oA,oB,oC,oD,oE,oF,oG,oH,oI,oJ,oK,oL,oM,oN,oO,oP,oQ,oR,oS,oT,oU,oV,oW,oX,oY,oZ,qA,qB,qC,qD,qE,qF,qG,qH,qI,qJ,qK,qL,qM,qN,qO,qP,qQ], defers := [] } : Act) → Ext w W0 → F f_ l_ a_ W0 := by
  intro  f_ l_ W0 a_ hf_ hl_ ha_ s0
  subst hf_ hl_ ha_
  refine (hF.out _ _ _ _).2 ?_
  refine wpAnyH_ready (rs := [31]) (by kernel_rfl) (by simp) ?_
  refine AllReadyH.cons (o := _) rfl (fun K hK => ?_) AllReadyH.nil
  refine tk_call (by kernel_rfl) (hd3.out _ (hm.out.ext s0)) (by kernel_rfl) ?_; rintro e W1 ⟨rfl, e1⟩; refine ⟨_, rfl, ?_⟩
  have s1 := s0.trans e1
  refine hK.out _ _ s1 (fun _ => ?_)
  clear hK K
  try simp only [sxA, sxB, sxC, Act.put, sxD, sxE, sxF]
  refine tkB (i := 32) (v := ?_) rfl hpan ?yl ?_
  case yl => (intro w hSw; (try dsimp only at hSw);  go_simp); with_reducible rfl
  try simp only [sxA, sxB, sxC, Act.put, sxD, sxE, sxF]
  refine tkB (i := 33) (v := ?_) rfl hpan ?yl ?_
  case yl => (intro w hSw; (try dsimp only at hSw);  go_simp); with_reducible rfl
  try simp only [sxA, sxB, sxC, Act.put, sxD, sxE, sxF]
  refine wpAnyH_done (by kernel_rfl) ?_ _
  try simp only [sxA, sxB, sxC, Act.put, sxD, sxE, sxF]
  rw [hQ2.out]
  refine ⟨rfl, ?eq1_1, s1⟩
  case eq1_1 => (first | with_reducible rfl | rfl)
 have N1_1 : ∀ (f_ : Nat) (l_ : Array Bool) (W0 : World) (a_ : Act), f_ = 16 → l_ = #[true, true, true, true, true, true, true, true, true, true, true, true, true, true, true, true, true, true, false, false, false, false, false, false, false, false, false, false, false, false, false, false, false, false] → a_ = ({ tmps := #[.slice a n cap,yB,.bool s,yD,yE,.pointer (some ⟨T, 0, none⟩),yG,.pointer (some ⟨Q, 0, none⟩),yI,.pointer (some ⟨B9, 0, none⟩),.int .i64 Pe,.pointer (some ⟨B11, 0, none⟩),.int .i64 Pe,yN,.int .i64 E,yP,.int .i64 E,yR,.int .i64 NR,yT,yU,yV,yW,yX,yY,yZ,zA,zB,zC,zD,zE,zF,zG,zH,zI,zJ,zK,zL,zM,zN,zO,zP,zQ,zR,zS,zT,zU,zV,zW,zX,zY,zZ,uA,uB,uC,uD,uE,uF,uG,uH,uI,.agg #[.int .i64 Pn, .int .i64 Pd],.agg #[.int .i64 Pn, .int .i64 Pd],.bool false,.bool false,.int .i64 Pe,.int .i64 Pe,.bool false,.bool false,.bool false,.slice a n cap,.agg #[.int .i64 u, .int .i64 c],.bool s,.agg #[.int .i64 d, .int .i64 b, .int .i64 le, .int .i64 co],.int .i64 NE,.slice a n cap,.agg #[.int .i64 u, .int .i64 c],.bool s,.agg #[.int .i64 d, .int .i64 b, .int .i64 le, .int .i64 co],iB,iC,iD,iE,iF,iG,iH,iI,iJ,iK,iL,iM,iN,iO,iP,iQ,iR,iS,iT,iU,iV,iW,iX,iY,iZ,oA,oB,oC,oD,oE,oF,oG,oH,oI,oJ,oK,oL,oM,oN,oO,oP,oQ,oR,oS,oT,oU,oV,oW,oX,oY,oZ,qA,qB,qC,qD,qE,qF,qG,qH,qI,qJ,qK,qL,qM,qN,qO,qP,qQ], defers := [] } : Act) → Ext w W0 → F f_ l_ a_ W0 := by
  intro  f_ l_ W0 a_ hf_ hl_ ha_ s0
  subst hf_ hl_ ha_
  refine (hF.out _ _ _ _).2 ?_
  refine wpAnyH_ready (rs := [18]) (by kernel_rfl) (by simp) ?_
  refine AllReadyH.cons (o := _) rfl (fun K hK => ?_) AllReadyH.nil
  refine tk_call (by kernel_rfl) (hd2.out _ (hm.out.ext s0)) (by kernel_rfl) ?_; rintro e W1 ⟨rfl, e1⟩; refine ⟨_, rfl, ?_⟩
  have s1 := s0.trans e1
  refine hK.out _ _ s1 (fun _ => ?_)
  clear hK K
  try simp only [sxA, sxB, sxC, Act.put, sxD, sxE, sxF]
  refine tkB (i := 19) (v := ?_) rfl hpan ?yl ?_
  case yl => (intro w hSw; (try dsimp only at hSw);  go_simp); with_reducible rfl
  try simp only [sxA, sxB, sxC, Act.put, sxD, sxE, sxF]
  refine tkB (i := 20) (v := ?_) rfl hpan ?yl ?_
  case yl => (intro w hSw; (try dsimp only at hSw);  go_simp); with_reducible rfl
  try simp only [sxA, sxB, sxC, Act.put, sxD, sxE, sxF]
  refine tkB (i := 21) (v := ?_) rfl hpan ?yl ?_
  case yl => (intro w hSw; (try dsimp only at hSw);  go_simp); with_reducible rfl
  try simp only [sxA, sxB, sxC, Act.put, sxD, sxE, sxF]
  refine tkB (i := 22) (v := ?_) rfl hpan ?yl ?_
  case yl => (intro w hSw; (try dsimp only at hSw);  go_simp); with_reducible rfl
  try simp only [sxA, sxB, sxC, Act.put, sxD, sxE, sxF]
  refine tkB (i := 23) (v := ?_) rfl hpan ?yl ?_
  case yl => (intro w hSw; (try dsimp only at hSw);  go_simp); with_reducible rfl
  try simp only [sxA, sxB, sxC, Act.put, sxD, sxE, sxF]
  refine tkB (i := 24) (v := ?_) rfl hpan ?yl ?_
  case yl => (intro w hSw; (try dsimp only at hSw);  go_simp); with_reducible rfl
  try simp only [sxA, sxB, sxC, Act.put, sxD, sxE, sxF]
  refine tkB (i := 25) (v := ?_) rfl hpan ?yl ?_
  case yl => (intro w hSw; (try dsimp only at hSw);  go_simp); with_reducible rfl
  try simp only [sxA, sxB, sxC, Act.put, sxD, sxE, sxF]
  refine tkB (i := 26) (v := ?_) rfl hpan ?yl ?_
  case yl => (intro w hSw; (try dsimp only at hSw);  go_simp); with_reducible rfl
  try simp only [sxA, sxB, sxC, Act.put, sxD, sxE, sxF]
  refine tkB (i := 27) (v := ?_) rfl hpan ?yl ?_
  case yl => (intro w hSw; (try dsimp only at hSw);  go_simp); with_reducible rfl
  try simp only [sxA, sxB, sxC, Act.put, sxD, sxE, sxF]
  refine tkB (i := 28) (v := ?_) rfl hpan ?yl ?_
  case yl => (intro w hSw; (try dsimp only at hSw);  go_simp); with_reducible rfl
  try simp only [sxA, sxB, sxC, Act.put, sxD, sxE, sxF]
  refine tkB (i := 29) (v := ?_) rfl hpan ?yl ?_
  case yl => (intro w hSw; have k_ := hRD_.out w hSw; go_simp); with_reducible rfl
  try simp only [sxA, sxB, sxC, Act.put, sxD, sxE, sxF]
  refine tkB (i := 30) (v := ?_) rfl hpan ?yl ?_
  case yl => (intro w hSw; (try dsimp only at hSw);  go_simp); with_reducible rfl
  try simp only [sxA, sxB, sxC, Act.put, sxD, sxE, sxF]
  refine (hF.out _ _ _ _).1 ?_
  exact N1_0 _ _ W1 _ (by first | rfl | kernel_rfl) (by first | rfl | kernel_rfl) (by (try simp only [sxA, sxB, sxC, Act.put, sxD, sxE, sxF]); first | done | with_reducible rfl | rfl) s1
 have N1_2 : ∀ (f_ : Nat) (l_ : Array Bool) (W0 : World) (a_ : Act), f_ = 17 → l_ = #[true, true, true, true, true, true, true, true, true, true, true, true, true, false, true, true, true, true, false, false, false, false, false, false, false, false, false, false, false, false, false, false, false, false] → a_ = ({ tmps := #[.slice a n cap,yB,.bool s,yD,yE,.pointer (some ⟨T, 0, none⟩),yG,.pointer (some ⟨Q, 0, none⟩),yI,.pointer (some ⟨B9, 0, none⟩),.int .i64 Pe,.pointer (some ⟨B11, 0, none⟩),.int .i64 Pe,yN,.int .i64 E,yP,.int .i64 E,yR,.int .i64 NR,yT,yU,yV,yW,yX,yY,yZ,zA,zB,zC,zD,zE,zF,zG,zH,zI,zJ,zK,zL,zM,zN,zO,zP,zQ,zR,zS,zT,zU,zV,zW,zX,zY,zZ,uA,uB,uC,uD,uE,uF,uG,uH,uI,.agg #[.int .i64 Pn, .int .i64 Pd],.agg #[.int .i64 Pn, .int .i64 Pd],.bool false,.bool false,.int .i64 Pe,.int .i64 Pe,.bool false,.bool false,.bool false,.slice a n cap,.agg #[.int .i64 u, .int .i64 c],.bool s,.agg #[.int .i64 d, .int .i64 b, .int .i64 le, .int .i64 co],uW,.slice a n cap,.agg #[.int .i64 u, .int .i64 c],.bool s,.agg #[.int .i64 d, .int .i64 b, .int .i64 le, .int .i64 co],iB,iC,iD,iE,iF,iG,iH,iI,iJ,iK,iL,iM,iN,iO,iP,iQ,iR,iS,iT,iU,iV,iW,iX,iY,iZ,oA,oB,oC,oD,oE,oF,oG,oH,oI,oJ,oK,oL,oM,oN,oO,oP,oQ,oR,oS,oT,oU,oV,oW,oX,oY,oZ,qA,qB,qC,qD,qE,qF,qG,qH,qI,qJ,qK,qL,qM,qN,qO,qP,qQ], defers := [] } : Act) → Ext w W0 → F f_ l_ a_ W0 := by
  intro  f_ l_ W0 a_ hf_ hl_ ha_ s0
  subst hf_ hl_ ha_
  refine (hF.out _ _ _ _).2 ?_
  clear N1_0
  refine wpAnyH_ready (rs := [13]) (by kernel_rfl) (by simp) ?_
  refine AllReadyH.cons (o := _) rfl (fun K hK => ?_) AllReadyH.nil
  refine tk_call (by kernel_rfl) (hd1.out _ (hm.out.ext s0)) (by kernel_rfl) ?_; rintro e W1 ⟨rfl, e1⟩; refine ⟨_, rfl, ?_⟩
  have s1 := s0.trans e1
  refine hK.out _ _ s1 (fun _ => ?_)
  clear hK K
  try simp only [sxA, sxB, sxC, Act.put, sxD, sxE, sxF]
  refine (hF.out _ _ _ _).1 ?_
  exact N1_1 _ _ W1 _ (by first | rfl | kernel_rfl) (by first | rfl | kernel_rfl) (by (try simp only [sxA, sxB, sxC, Act.put, sxD, sxE, sxF]); first | done | with_reducible rfl | rfl) s1
 rw [hA_.out]
 refine (hF.out _ _ _ _).2 ?_
 refine tkB (i := 0) (v := ?_) rfl hpan ?yl ?_
 case yl => (intro w hSw; have k_ := hRD_.out w hSw; go_simp); with_reducible rfl
 try simp only [sxA, sxB, sxC, Act.put, sxD, sxE, sxF]
 refine tkB (i := 1) (v := ?_) rfl hpan ?yl ?_
 case yl => (intro w hSw; have k_ := hRD_.out w hSw; go_simp); with_reducible rfl
 try simp only [sxA, sxB, sxC, Act.put, sxD, sxE, sxF]
 refine tkB (i := 2) (v := ?_) rfl hpan ?yl ?_
 case yl => (intro w hSw; (try dsimp only at hSw);  go_simp); with_reducible rfl
 try simp only [sxA, sxB, sxC, Act.put, sxD, sxE, sxF]
 refine tkB (i := 3) (v := ?_) rfl hpan ?yl ?_
 case yl => (intro w hSw; (try dsimp only at hSw);  go_simp); with_reducible rfl
 try simp only [sxA, sxB, sxC, Act.put, sxD, sxE, sxF]
 refine tkB (i := 4) (v := ?_) rfl hpan ?yl ?_
 case yl => (intro w hSw; (try dsimp only at hSw);  go_simp); with_reducible rfl
 try simp only [sxA, sxB, sxC, Act.put, sxD, sxE, sxF]
 refine tkB (i := 5) (v := ?_) rfl hpan ?yl ?_
 case yl => (intro w hSw; (try dsimp only at hSw);  go_simp); with_reducible rfl
 try simp only [sxA, sxB, sxC, Act.put, sxD, sxE, sxF]
 refine tkB (i := 6) (v := ?_) rfl hpan ?yl ?_
 case yl => (intro w hSw; (try dsimp only at hSw);  go_simp); with_reducible rfl
 try simp only [sxA, sxB, sxC, Act.put, sxD, sxE, sxF]
 refine tkB (i := 7) (v := ?_) rfl hpan ?yl ?_
 case yl => (intro w hSw; (try dsimp only at hSw);  go_simp); with_reducible rfl
 try simp only [sxA, sxB, sxC, Act.put, sxD, sxE, sxF]
 refine tkB (i := 8) (v := ?_) rfl hpan ?yl ?_
 case yl => (intro w hSw; (try dsimp only at hSw);  go_simp); with_reducible rfl
 try simp only [sxA, sxB, sxC, Act.put, sxD, sxE, sxF]
 refine tkB (i := 9) (v := ?_) rfl hpan ?yl ?_
 case yl => (intro w hSw; (try dsimp only at hSw);  go_simp); with_reducible rfl
 try simp only [sxA, sxB, sxC, Act.put, sxD, sxE, sxF]
 refine tkB (i := 10) (v := ?_) rfl hpan ?yl ?_
 case yl => (intro w hSw; have k_ := hRD_.out w hSw; go_simp); with_reducible rfl
 try simp only [sxA, sxB, sxC, Act.put, sxD, sxE, sxF]
 refine tkB (i := 11) (v := ?_) rfl hpan ?yl ?_
 case yl => (intro w hSw; (try dsimp only at hSw);  go_simp); with_reducible rfl
 try simp only [sxA, sxB, sxC, Act.put, sxD, sxE, sxF]
 refine tkB (i := 12) (v := ?_) rfl hpan ?yl ?_
 case yl => (intro w hSw; have k_ := hRD_.out w hSw; go_simp); with_reducible rfl
 try simp only [sxA, sxB, sxC, Act.put, sxD, sxE, sxF]
 refine tkB (i := 14) (v := ?_) rfl hpan ?yl ?_
 case yl => (intro w hSw; (try dsimp only at hSw);  go_simp); with_reducible rfl
 try simp only [sxA, sxB, sxC, Act.put, sxD, sxE, sxF]
 refine tkB (i := 15) (v := ?_) rfl hpan ?yl ?_
 case yl => (intro w hSw; have k_ := hRD_.out w hSw; go_simp); with_reducible rfl
 try simp only [sxA, sxB, sxC, Act.put, sxD, sxE, sxF]
 refine tkB (i := 16) (v := ?_) rfl hpan ?yl ?_
 case yl => (intro w hSw; (try dsimp only at hSw);  go_simp); with_reducible rfl
 try simp only [sxA, sxB, sxC, Act.put, sxD, sxE, sxF]
 refine tkB (i := 17) (v := ?_) rfl hpan ?yl ?_
 case yl => (intro w hSw; have k_ := hRD_.out w hSw; go_simp); with_reducible rfl
 try simp only [sxA, sxB, sxC, Act.put, sxD, sxE, sxF]
 refine (hF.out _ _ _ _).1 ?_
 exact N1_2 _ _ W0 _ (by first | rfl | kernel_rfl) (by first | rfl | kernel_rfl) (by (try simp only [sxA, sxB, sxC, Act.put, sxD, sxE, sxF]); first | done | with_reducible rfl | rfl) s0
set_option maxHeartbeats 16000000 in
theorem alloyProofs_any (l : List Met) (q : FitM l) (a : Option Addr) (cap : Nat) (u c : Int) (s : Bool) (d b le co : Int) (w : World) (hM : Mts w a l) (hl : l.length ≤ 9223372036854775807) (iu : I64 u) (ic : I64 c) (wd : I64 d) (wb : I64 b) (wl : I64 le) (wc : I64 co) :
 Calls Try.prog 5 #[.slice a l.length cap, (.agg #[.int .i64 (u), .int .i64 (c)]), .bool s, (.agg #[.int .i64 (d), .int .i64 (b), .int .i64 (le), .int .i64 (co)])] w fun e w' => e = .returned (.bool true) ∧ Ext w w' := by
 have hg := hid (fun W => greatL_any a cap l.length none 0 0 hl (by decide) W)
 by_cases g : 12 < l.length
 ·rw [show (decide (12 < l.length) || decide (12 < 0)) = true by simp [g]] at hg
  replace g := hid g
  go_enter Try.func5, Try.ntmps5
  go_wp2_with fail
  refine (hg.out _).mono ?_; rintro e w1 ⟨rfl, hE⟩
  go_wp2_with fail
  refine (works_any _).mono ?_; rintro e w2 ⟨rfl, hE2⟩
  go_wp2_with fail
  go_ret
  exact ⟨rfl, exE⟩
 rw [show (decide (12 < l.length) || decide (12 < 0)) = false by simp [g]] at hg
 have hl2 : l.length ≤ 1000 := by omega
 have heq : ∀ (p q : Int) w, (Op.equalIn 10000 29 (.agg #[.int .i64 p, .int .i64 q]) (.agg #[.int .i64 p, .int .i64 q])).run Try.prog w = .ok true w := fun p q w => by rw [run_eqRatio]; simp
 have heq4 : ∀ (p q r t : Int) w, (Op.equalIn 10000 45 (.agg #[.int .i64 (p), .int .i64 (q), .int .i64 (r), .int .i64 (t)]) (.agg #[.int .i64 (p), .int .i64 (q), .int .i64 (r), .int .i64 (t)])).run Try.prog w = .ok true w := run_eqProof
 have h1 : Hid (cheE l u c s = 0 → nvEr l u c s = 5 ∧ nvX l u c s = [0, 0, 0, 0]) := hid nvr_five
 have h2 : Hid (¬ cheE l u c s = 0 → proX l u c s = [0, 0, 0, 0]) := hid proX_zero
 have h3 : Hid (¬ nvEr l u c s = 0 → nvX l u c s = [0, 0, 0, 0]) := hid nvX_zero
 have hKp := hid (fun W h => checkProof_any l q hl2 a cap u c iu ic s d b le co wd wb wl wc W h)
 have hKq := hid (fun W h => checkProofR_any l q hl2 a cap u c s d b le co W h)
 have hL := hid (fun W h => by have := leastR_any l q hl2 a cap u c s W h; rw [← (least_eq l u c s).1, ← (least_eq l u c s).2, ← che_eq l u c s] at this; exact this)
 have hPr := hid (fun W h => by have := proof_any l q hl2 a cap u c iu ic s W h; rw [pre_eq] at this; exact this)
 have hPr : Hid (∀ W, Mts W a l → Calls Try.prog 35 #[.slice a l.length cap, (.agg #[.int .i64 (u), .int .i64 (c)]), .bool s] W fun e w' => e = .returned (.tuple #[(.agg #[.int .i64 (nth (proX l u c s) 0), .int .i64 (nth (proX l u c s) 1), .int .i64 (nth (proX l u c s) 2), .int .i64 (nth (proX l u c s) 3)]), .int .i64 (cheE l u c s)]) ∧ Ext W w') := hid hPr.out
 have hNv := hid (fun W h => never_any l q hl2 a cap u c iu ic s W h)
 have hNv : Hid (∀ W, Mts W a l → Calls Try.prog 36 #[.slice a l.length cap, (.agg #[.int .i64 (u), .int .i64 (c)]), .bool s] W fun e w' => e = .returned (.tuple #[(.agg #[.int .i64 (nth (nvX l u c s) 0), .int .i64 (nth (nvX l u c s) 1), .int .i64 (nth (nvX l u c s) 2), .int .i64 (nth (nvX l u c s) 3)]), .int .i64 (nvEr l u c s)]) ∧ Ext W w') := hid hNv.out
 have hNp := hid (fun W h => checkNever_any l q hl2 a cap u c iu ic s d b le co wd wb wl wc W h)
 have hNpR := hid (fun W h => checkNeverR_any l q hl2 a cap u c s d b le co W h)
 have hNe := hid (fun W h => by have := neverErrorR_any l q hl2 a cap u c s W h; rw [← nve_eq] at this; exact this)
 have hKR := hid (fun (h : cheE l u c s = 0) W h1 => by have hp := (pr_spec (che_chk h) s).1 h; have := checkProofR_any l q hl2 a cap u c s (nth (proX l u c s) 0) (nth (proX l u c s) 1) (nth (proX l u c s) 2) (nth (proX l u c s) 3) W h1; rw [hp.2.1, hp.2.2.1, hp.2.2.2.1] at this; exact this)
 have hNwR := hid (fun (h : nvEr l u c s = 0) W h1 => by have := checkNeverR_any l q hl2 a cap u c s (nth (nvX l u c s) 0) (nth (nvX l u c s) 1) (nth (nvX l u c s) 2) (nth (nvX l u c s) 3) W h1; rw [nvX_ok h] at this; exact this)
 replace hM := hid hM
 replace g := hid g
 clear q hl2
 obtain ⟨n, hn⟩ : ∃ n, l.length = n := ⟨_, rfl⟩
 rw [hn] at hg hKp hKq hL hPr hNv hNp hNpR hNe hKR hNwR hl g ⊢
 replace hn := hid hn
 generalize lstN l u c s = LN at *
 generalize lstD l u c s = LD at *
 generalize cheE l u c s = EC at *
 generalize nvrE l u c s d b le co = NE at *
 generalize nvX l u c s = NX at *
 generalize nvEr l u c s = NR at *
 generalize proX l u c s = QX at *
 generalize prfNE l u c s d b le co = Pn at *
 generalize prfDE l u c s d b le co = Pd at *
 generalize prfE l u c s d b le co = Pe at *
 by_cases gE : EC = 0
 ·subst gE
  obtain ⟨rfl, rfl⟩ := h1.out rfl
  rw [show nth ([0, 0, 0, 0] : List Int) 0 = 0 from rfl, show nth ([0, 0, 0, 0] : List Int) 1 = 0 from rfl, show nth ([0, 0, 0, 0] : List Int) 2 = 0 from rfl, show nth ([0, 0, 0, 0] : List Int) 3 = 0 from rfl] at hNv
  clear h1 h2 h3 hNwR
  go_enter Try.func5, Try.ntmps5
  go_wp2_with fail
  refine (hg.out _).mono ?_; rintro e w1 ⟨rfl, hE⟩
  have X := hid (show Ext w w1 from exE)
  have t := hid (show C2 w1 w.heap.size (u) (c) from ⟨hE.cell (p := ⟨w.heap.size, 0, none⟩) (v := .int .i64 (u)) (by simp [go_sem]), hE.cell (p := ⟨w.heap.size, 1, none⟩) (v := .int .i64 (c)) (by simp [go_sem])⟩)
  have p := hid (show C4 w1 (w.heap.size + 1) (d) (b) (le) (co) from ⟨hE.cell (p := ⟨w.heap.size + 1, 0, none⟩) (v := .int .i64 (d)) (by simp [go_sem]), hE.cell (p := ⟨w.heap.size + 1, 1, none⟩) (v := .int .i64 (b)) (by simp [go_sem]), hE.cell (p := ⟨w.heap.size + 1, 2, none⟩) (v := .int .i64 (le)) (by simp [go_sem]), hE.cell (p := ⟨w.heap.size + 1, 3, none⟩) (v := .int .i64 (co)) (by simp [go_sem])⟩)
  replace hM := hid (hM.out.ext X.out)
  obtain ⟨T, hT⟩ : ∃ T, w.heap.size = T := ⟨_, rfl⟩
  rw [hT] at t p ⊢
  clear hE hg hT
  obtain ⟨o0, o1⟩ := t.out; have lo0 := cell_lt o0; dsimp only at lo0
  obtain ⟨o2, o3, o4, o5⟩ := p.out; have lo2 := cell_lt o2; dsimp only at lo2
  go_wp2_with fail
  refine name_c (fun v1 hv => ?_)
  have x1 : Ext w1 v1 := by rw [hv]; exact exE
  replace X := hid (X.out.trans x1); replace hM := hid (hM.out.ext x1); replace t := hid (t.out.ext x1); replace p := hid (p.out.ext x1)
  clear o0 o1 lo0 o2 o3 o4 o5 lo2
  clear hv x1
  refine (hKp.out _ hM.out).mono ?_; rintro e u2 ⟨rfl, hE⟩
  replace X := hid (X.out.trans hE); replace hM := hid (hM.out.ext hE); replace t := hid (t.out.ext hE); replace p := hid (p.out.ext hE)
  clear hE
  obtain ⟨o0, o1⟩ := t.out; have lo0 := cell_lt o0; dsimp only at lo0
  obtain ⟨o2, o3, o4, o5⟩ := p.out; have lo2 := cell_lt o2; dsimp only at lo2
  go_wp2_with fail
  refine name_c (fun v3 hv => ?_)
  have x1 : Ext u2 v3 := by rw [hv]; exact exE
  have b9 := hid (show C2 v3 u2.heap.size (Pn) (Pd) from ⟨by rw [hv]; simp [go_sem], by rw [hv]; simp [go_sem]⟩)
  replace X := hid (X.out.trans x1); replace hM := hid (hM.out.ext x1); replace t := hid (t.out.ext x1); replace p := hid (p.out.ext x1)
  clear o0 o1 lo0 o2 o3 o4 o5 lo2
  clear hv x1
  obtain ⟨Bb9, hBn⟩ : ∃ z, u2.heap.size = z := ⟨_, rfl⟩
  rw [hBn] at b9 ⊢
  clear hBn
  refine (hKq.out _ hM.out).mono ?_; rintro e u4 ⟨rfl, hE⟩
  replace X := hid (X.out.trans hE); replace hM := hid (hM.out.ext hE); replace t := hid (t.out.ext hE); replace p := hid (p.out.ext hE)
  replace b9 := hid (b9.out.ext hE)
  clear hE
  obtain ⟨o0, o1⟩ := t.out; have lo0 := cell_lt o0; dsimp only at lo0
  go_wp2_with fail
  refine name_c (fun v5 hv => ?_)
  have x1 : Ext u4 v5 := by rw [hv]; exact exE
  have b11 := hid (show C2 v5 u4.heap.size (Pn) (Pd) from ⟨by rw [hv]; simp [go_sem], by rw [hv]; simp [go_sem]⟩)
  replace X := hid (X.out.trans x1); replace hM := hid (hM.out.ext x1); replace t := hid (t.out.ext x1); replace p := hid (p.out.ext x1)
  replace b9 := hid (b9.out.ext x1)
  clear o0 o1 lo0
  clear hv x1
  obtain ⟨Bb11, hBn⟩ : ∃ z, u4.heap.size = z := ⟨_, rfl⟩
  rw [hBn] at b11 ⊢
  clear hBn
  refine (hL.out _ hM.out).mono ?_; rintro e u6 ⟨rfl, hE⟩
  replace X := hid (X.out.trans hE); replace hM := hid (hM.out.ext hE); replace t := hid (t.out.ext hE); replace p := hid (p.out.ext hE)
  replace b9 := hid (b9.out.ext hE); replace b11 := hid (b11.out.ext hE)
  clear hE
  obtain ⟨o0, o1⟩ := t.out; have lo0 := cell_lt o0; dsimp only at lo0
  go_wp2_with fail
  refine name_c (fun v7 hv => ?_)
  have x1 : Ext u6 v7 := by rw [hv]; exact exE
  have b13 := hid (show C2 v7 u6.heap.size (LN) (LD) from ⟨by rw [hv]; simp [go_sem], by rw [hv]; simp [go_sem]⟩)
  replace X := hid (X.out.trans x1); replace hM := hid (hM.out.ext x1); replace t := hid (t.out.ext x1); replace p := hid (p.out.ext x1)
  replace b9 := hid (b9.out.ext x1); replace b11 := hid (b11.out.ext x1)
  clear o0 o1 lo0
  clear hv x1
  obtain ⟨Bb13, hBn⟩ : ∃ z, u6.heap.size = z := ⟨_, rfl⟩
  rw [hBn] at b13 ⊢
  clear hBn
  refine (hPr.out _ hM.out).mono ?_; rintro e u8 ⟨rfl, hE⟩
  replace X := hid (X.out.trans hE); replace hM := hid (hM.out.ext hE); replace t := hid (t.out.ext hE); replace p := hid (p.out.ext hE)
  replace b9 := hid (b9.out.ext hE); replace b11 := hid (b11.out.ext hE); replace b13 := hid (b13.out.ext hE)
  clear hE
  obtain ⟨o0, o1⟩ := t.out; have lo0 := cell_lt o0; dsimp only at lo0
  go_wp2_with fail
  refine name_c (fun v9 hv => ?_)
  have x1 : Ext u8 v9 := by rw [hv]; exact exE
  have b15 := hid (show C4 v9 u8.heap.size (nth QX 0) (nth QX 1) (nth QX 2) (nth QX 3) from ⟨by rw [hv]; simp [go_sem], by rw [hv]; simp [go_sem], by rw [hv]; simp [go_sem], by rw [hv]; simp [go_sem]⟩)
  replace X := hid (X.out.trans x1); replace hM := hid (hM.out.ext x1); replace t := hid (t.out.ext x1); replace p := hid (p.out.ext x1)
  replace b9 := hid (b9.out.ext x1); replace b11 := hid (b11.out.ext x1); replace b13 := hid (b13.out.ext x1)
  clear o0 o1 lo0
  clear hv x1
  obtain ⟨Bb15, hBn⟩ : ∃ z, u8.heap.size = z := ⟨_, rfl⟩
  rw [hBn] at b15 ⊢
  clear hBn
  refine (hNv.out _ hM.out).mono ?_; rintro e u10 ⟨rfl, hE⟩
  replace X := hid (X.out.trans hE); replace hM := hid (hM.out.ext hE); replace t := hid (t.out.ext hE); replace p := hid (p.out.ext hE)
  replace b9 := hid (b9.out.ext hE); replace b11 := hid (b11.out.ext hE); replace b13 := hid (b13.out.ext hE); replace b15 := hid (b15.out.ext hE)
  clear hE
  go_upto_region 8 with (fail)
  refine name_wp (fun v11 hv => ?_)
  have x1 : Ext u10 v11 := by rw [hv]; exact exE
  have b17 := hid (show C4 v11 u10.heap.size (0) (0) (0) (0) from ⟨by rw [hv]; simp [go_sem], by rw [hv]; simp [go_sem], by rw [hv]; simp [go_sem], by rw [hv]; simp [go_sem]⟩)
  replace X := hid (X.out.trans x1); replace hM := hid (hM.out.ext x1); replace t := hid (t.out.ext x1); replace p := hid (p.out.ext x1)
  replace b9 := hid (b9.out.ext x1); replace b11 := hid (b11.out.ext x1); replace b13 := hid (b13.out.ext x1); replace b15 := hid (b15.out.ext x1)
  clear hv x1
  obtain ⟨Bb17, hBn⟩ : ∃ z, u10.heap.size = z := ⟨_, rfl⟩
  rw [hBn] at b17 ⊢
  clear hBn
  refine wp_mono (stQ8 rfl hNp.out hNpR.out hNe.out hM.out t.out.1 t.out.2 p.out.1 p.out.2.1 p.out.2.2.1 p.out.2.2.2 b9.out.1 b9.out.2 b11.out.1 b11.out.2) ?_
  rintro e a' v98 ⟨rfl, rfl, xx⟩
  replace X := hid (X.out.trans xx); replace hM := hid (hM.out.ext xx); replace t := hid (t.out.ext xx); replace p := hid (p.out.ext xx)
  replace b9 := hid (b9.out.ext xx); replace b11 := hid (b11.out.ext xx); replace b13 := hid (b13.out.ext xx); replace b15 := hid (b15.out.ext xx)
  replace b17 := hid (b17.out.ext xx)
  clear xx
  obtain ⟨o0, o1⟩ := t.out; have lo0 := cell_lt o0; dsimp only at lo0
  obtain ⟨o2, o3, o4, o5⟩ := b15.out; have lo2 := cell_lt o2; dsimp only at lo2
  go_wp2_with fail
  refine name_c (fun v12 hv => ?_)
  have x1 : Ext v98 v12 := by rw [hv]; exact exE
  replace X := hid (X.out.trans x1); replace hM := hid (hM.out.ext x1); replace t := hid (t.out.ext x1); replace p := hid (p.out.ext x1)
  replace b9 := hid (b9.out.ext x1); replace b11 := hid (b11.out.ext x1); replace b13 := hid (b13.out.ext x1); replace b15 := hid (b15.out.ext x1)
  replace b17 := hid (b17.out.ext x1)
  clear o0 o1 lo0 o2 o3 o4 o5 lo2
  clear hv x1
  refine (hKR.out (by trivial) _ hM.out).mono ?_; rintro e u13 ⟨rfl, hE⟩
  replace X := hid (X.out.trans hE); replace hM := hid (hM.out.ext hE); replace t := hid (t.out.ext hE); replace p := hid (p.out.ext hE)
  replace b9 := hid (b9.out.ext hE); replace b11 := hid (b11.out.ext hE); replace b13 := hid (b13.out.ext hE); replace b15 := hid (b15.out.ext hE)
  replace b17 := hid (b17.out.ext hE)
  clear hE
  go_upto_region 12 with (fail)
  refine name_wp (fun v14 hv => ?_)
  have x1 : Ext u13 v14 := by rw [hv]; exact exE
  have b19 := hid (show C2 v14 u13.heap.size (LN) (LD) from ⟨by rw [hv]; simp [go_sem], by rw [hv]; simp [go_sem]⟩)
  replace X := hid (X.out.trans x1); replace hM := hid (hM.out.ext x1); replace t := hid (t.out.ext x1); replace p := hid (p.out.ext x1)
  replace b9 := hid (b9.out.ext x1); replace b11 := hid (b11.out.ext x1); replace b13 := hid (b13.out.ext x1); replace b15 := hid (b15.out.ext x1)
  replace b17 := hid (b17.out.ext x1)
  clear hv x1
  obtain ⟨Bb19, hBn⟩ : ∃ z, u13.heap.size = z := ⟨_, rfl⟩
  rw [hBn] at b19 ⊢
  clear hBn
  obtain ⟨o0, o1⟩ := b19.out; have lo0 := cell_lt o0; dsimp only at lo0
  obtain ⟨o2, o3⟩ := b13.out; have lo2 := cell_lt o2; dsimp only at lo2
  obtain ⟨o4, o5, o6, o7⟩ := b17.out; have lo4 := cell_lt o4; dsimp only at lo4
  go_wp2_with fail
  refine (works_any _).mono ?_; rintro e w9 ⟨rfl, hE9⟩
  have X9 := hid (X.out.trans (show Ext v14 w9 from exE))
  go_wp2_with fail
  go_ret
  exact ⟨rfl, X9.out⟩
 ·have hq0 := h2.out gE
  subst hq0
  rw [show nth ([0, 0, 0, 0] : List Int) 0 = 0 from rfl, show nth ([0, 0, 0, 0] : List Int) 1 = 0 from rfl, show nth ([0, 0, 0, 0] : List Int) 2 = 0 from rfl, show nth ([0, 0, 0, 0] : List Int) 3 = 0 from rfl] at hPr
  have gE1 : (EC == 0) = false := by simpa using gE
  have gE2 : (EC != 0) = true := by simpa using gE
  replace gE := hid gE
  clear h1 h2 hKR
  by_cases gN : NR = 0
  ·subst gN
   clear h3
   go_enter Try.func5, Try.ntmps5
   go_wp2_with fail
   refine (hg.out _).mono ?_; rintro e w1 ⟨rfl, hE⟩
   have X := hid (show Ext w w1 from exE)
   have t := hid (show C2 w1 w.heap.size (u) (c) from ⟨hE.cell (p := ⟨w.heap.size, 0, none⟩) (v := .int .i64 (u)) (by simp [go_sem]), hE.cell (p := ⟨w.heap.size, 1, none⟩) (v := .int .i64 (c)) (by simp [go_sem])⟩)
   have p := hid (show C4 w1 (w.heap.size + 1) (d) (b) (le) (co) from ⟨hE.cell (p := ⟨w.heap.size + 1, 0, none⟩) (v := .int .i64 (d)) (by simp [go_sem]), hE.cell (p := ⟨w.heap.size + 1, 1, none⟩) (v := .int .i64 (b)) (by simp [go_sem]), hE.cell (p := ⟨w.heap.size + 1, 2, none⟩) (v := .int .i64 (le)) (by simp [go_sem]), hE.cell (p := ⟨w.heap.size + 1, 3, none⟩) (v := .int .i64 (co)) (by simp [go_sem])⟩)
   replace hM := hid (hM.out.ext X.out)
   obtain ⟨T, hT⟩ : ∃ T, w.heap.size = T := ⟨_, rfl⟩
   rw [hT] at t p ⊢
   clear hE hg hT
   obtain ⟨o0, o1⟩ := t.out; have lo0 := cell_lt o0; dsimp only at lo0
   obtain ⟨o2, o3, o4, o5⟩ := p.out; have lo2 := cell_lt o2; dsimp only at lo2
   go_wp2_with fail
   refine name_c (fun v1 hv => ?_)
   have x1 : Ext w1 v1 := by rw [hv]; exact exE
   replace X := hid (X.out.trans x1); replace hM := hid (hM.out.ext x1); replace t := hid (t.out.ext x1); replace p := hid (p.out.ext x1)
   clear o0 o1 lo0 o2 o3 o4 o5 lo2
   clear hv x1
   refine (hKp.out _ hM.out).mono ?_; rintro e u2 ⟨rfl, hE⟩
   replace X := hid (X.out.trans hE); replace hM := hid (hM.out.ext hE); replace t := hid (t.out.ext hE); replace p := hid (p.out.ext hE)
   clear hE
   obtain ⟨o0, o1⟩ := t.out; have lo0 := cell_lt o0; dsimp only at lo0
   obtain ⟨o2, o3, o4, o5⟩ := p.out; have lo2 := cell_lt o2; dsimp only at lo2
   go_wp2_with fail
   refine name_c (fun v3 hv => ?_)
   have x1 : Ext u2 v3 := by rw [hv]; exact exE
   have b9 := hid (show C2 v3 u2.heap.size (Pn) (Pd) from ⟨by rw [hv]; simp [go_sem], by rw [hv]; simp [go_sem]⟩)
   replace X := hid (X.out.trans x1); replace hM := hid (hM.out.ext x1); replace t := hid (t.out.ext x1); replace p := hid (p.out.ext x1)
   clear o0 o1 lo0 o2 o3 o4 o5 lo2
   clear hv x1
   obtain ⟨Bb9, hBn⟩ : ∃ z, u2.heap.size = z := ⟨_, rfl⟩
   rw [hBn] at b9 ⊢
   clear hBn
   refine (hKq.out _ hM.out).mono ?_; rintro e u4 ⟨rfl, hE⟩
   replace X := hid (X.out.trans hE); replace hM := hid (hM.out.ext hE); replace t := hid (t.out.ext hE); replace p := hid (p.out.ext hE)
   replace b9 := hid (b9.out.ext hE)
   clear hE
   obtain ⟨o0, o1⟩ := t.out; have lo0 := cell_lt o0; dsimp only at lo0
   go_wp2_with fail
   refine name_c (fun v5 hv => ?_)
   have x1 : Ext u4 v5 := by rw [hv]; exact exE
   have b11 := hid (show C2 v5 u4.heap.size (Pn) (Pd) from ⟨by rw [hv]; simp [go_sem], by rw [hv]; simp [go_sem]⟩)
   replace X := hid (X.out.trans x1); replace hM := hid (hM.out.ext x1); replace t := hid (t.out.ext x1); replace p := hid (p.out.ext x1)
   replace b9 := hid (b9.out.ext x1)
   clear o0 o1 lo0
   clear hv x1
   obtain ⟨Bb11, hBn⟩ : ∃ z, u4.heap.size = z := ⟨_, rfl⟩
   rw [hBn] at b11 ⊢
   clear hBn
   refine (hL.out _ hM.out).mono ?_; rintro e u6 ⟨rfl, hE⟩
   replace X := hid (X.out.trans hE); replace hM := hid (hM.out.ext hE); replace t := hid (t.out.ext hE); replace p := hid (p.out.ext hE)
   replace b9 := hid (b9.out.ext hE); replace b11 := hid (b11.out.ext hE)
   clear hE
   obtain ⟨o0, o1⟩ := t.out; have lo0 := cell_lt o0; dsimp only at lo0
   go_wp2_with fail
   refine name_c (fun v7 hv => ?_)
   have x1 : Ext u6 v7 := by rw [hv]; exact exE
   have b13 := hid (show C2 v7 u6.heap.size (LN) (LD) from ⟨by rw [hv]; simp [go_sem], by rw [hv]; simp [go_sem]⟩)
   replace X := hid (X.out.trans x1); replace hM := hid (hM.out.ext x1); replace t := hid (t.out.ext x1); replace p := hid (p.out.ext x1)
   replace b9 := hid (b9.out.ext x1); replace b11 := hid (b11.out.ext x1)
   clear o0 o1 lo0
   clear hv x1
   obtain ⟨Bb13, hBn⟩ : ∃ z, u6.heap.size = z := ⟨_, rfl⟩
   rw [hBn] at b13 ⊢
   clear hBn
   refine (hPr.out _ hM.out).mono ?_; rintro e u8 ⟨rfl, hE⟩
   replace X := hid (X.out.trans hE); replace hM := hid (hM.out.ext hE); replace t := hid (t.out.ext hE); replace p := hid (p.out.ext hE)
   replace b9 := hid (b9.out.ext hE); replace b11 := hid (b11.out.ext hE); replace b13 := hid (b13.out.ext hE)
   clear hE
   obtain ⟨o0, o1⟩ := t.out; have lo0 := cell_lt o0; dsimp only at lo0
   go_wp2_with fail
   refine name_c (fun v9 hv => ?_)
   have x1 : Ext u8 v9 := by rw [hv]; exact exE
   have b15 := hid (show C4 v9 u8.heap.size (0) (0) (0) (0) from ⟨by rw [hv]; simp [go_sem], by rw [hv]; simp [go_sem], by rw [hv]; simp [go_sem], by rw [hv]; simp [go_sem]⟩)
   replace X := hid (X.out.trans x1); replace hM := hid (hM.out.ext x1); replace t := hid (t.out.ext x1); replace p := hid (p.out.ext x1)
   replace b9 := hid (b9.out.ext x1); replace b11 := hid (b11.out.ext x1); replace b13 := hid (b13.out.ext x1)
   clear o0 o1 lo0
   clear hv x1
   obtain ⟨Bb15, hBn⟩ : ∃ z, u8.heap.size = z := ⟨_, rfl⟩
   rw [hBn] at b15 ⊢
   clear hBn
   refine (hNv.out _ hM.out).mono ?_; rintro e u10 ⟨rfl, hE⟩
   replace X := hid (X.out.trans hE); replace hM := hid (hM.out.ext hE); replace t := hid (t.out.ext hE); replace p := hid (p.out.ext hE)
   replace b9 := hid (b9.out.ext hE); replace b11 := hid (b11.out.ext hE); replace b13 := hid (b13.out.ext hE); replace b15 := hid (b15.out.ext hE)
   clear hE
   go_upto_region 8 with (fail)
   refine name_wp (fun v11 hv => ?_)
   have x1 : Ext u10 v11 := by rw [hv]; exact exE
   have b17 := hid (show C4 v11 u10.heap.size (nth NX 0) (nth NX 1) (nth NX 2) (nth NX 3) from ⟨by rw [hv]; simp [go_sem], by rw [hv]; simp [go_sem], by rw [hv]; simp [go_sem], by rw [hv]; simp [go_sem]⟩)
   replace X := hid (X.out.trans x1); replace hM := hid (hM.out.ext x1); replace t := hid (t.out.ext x1); replace p := hid (p.out.ext x1)
   replace b9 := hid (b9.out.ext x1); replace b11 := hid (b11.out.ext x1); replace b13 := hid (b13.out.ext x1); replace b15 := hid (b15.out.ext x1)
   clear hv x1
   obtain ⟨Bb17, hBn⟩ : ∃ z, u10.heap.size = z := ⟨_, rfl⟩
   rw [hBn] at b17 ⊢
   clear hBn
   refine wp_mono (stQ8 rfl hNp.out hNpR.out hNe.out hM.out t.out.1 t.out.2 p.out.1 p.out.2.1 p.out.2.2.1 p.out.2.2.2 b9.out.1 b9.out.2 b11.out.1 b11.out.2) ?_
   rintro e a' v98 ⟨rfl, rfl, xx⟩
   replace X := hid (X.out.trans xx); replace hM := hid (hM.out.ext xx); replace t := hid (t.out.ext xx); replace p := hid (p.out.ext xx)
   replace b9 := hid (b9.out.ext xx); replace b11 := hid (b11.out.ext xx); replace b13 := hid (b13.out.ext xx); replace b15 := hid (b15.out.ext xx)
   replace b17 := hid (b17.out.ext xx)
   clear xx
   obtain ⟨o0, o1⟩ := t.out; have lo0 := cell_lt o0; dsimp only at lo0
   obtain ⟨o2, o3, o4, o5⟩ := b15.out; have lo2 := cell_lt o2; dsimp only at lo2
   obtain ⟨o6, o7, o8, o9⟩ := b17.out; have lo6 := cell_lt o6; dsimp only at lo6
   go_wp2_with fail
   refine name_c (fun v12 hv => ?_)
   have x1 : Ext v98 v12 := by rw [hv]; exact exE
   replace X := hid (X.out.trans x1); replace hM := hid (hM.out.ext x1); replace t := hid (t.out.ext x1); replace p := hid (p.out.ext x1)
   replace b9 := hid (b9.out.ext x1); replace b11 := hid (b11.out.ext x1); replace b13 := hid (b13.out.ext x1); replace b15 := hid (b15.out.ext x1)
   replace b17 := hid (b17.out.ext x1)
   clear o0 o1 lo0 o2 o3 o4 o5 lo2 o6 o7 o8 o9 lo6
   clear hv x1
   refine (hNwR.out (by trivial) _ hM.out).mono ?_; rintro e u13 ⟨rfl, hE⟩
   replace X := hid (X.out.trans hE); replace hM := hid (hM.out.ext hE); replace t := hid (t.out.ext hE); replace p := hid (p.out.ext hE)
   replace b9 := hid (b9.out.ext hE); replace b11 := hid (b11.out.ext hE); replace b13 := hid (b13.out.ext hE); replace b15 := hid (b15.out.ext hE)
   replace b17 := hid (b17.out.ext hE)
   clear hE
   go_wp2_with fail
   refine (works_any _).mono ?_; rintro e w9 ⟨rfl, hE9⟩
   have X9 := hid (X.out.trans (show Ext u13 w9 from exE))
   go_wp2_with fail
   go_ret
   exact ⟨rfl, X9.out⟩
  ·have hq0 := h3.out gN
   subst hq0
   rw [show nth ([0, 0, 0, 0] : List Int) 0 = 0 from rfl, show nth ([0, 0, 0, 0] : List Int) 1 = 0 from rfl, show nth ([0, 0, 0, 0] : List Int) 2 = 0 from rfl, show nth ([0, 0, 0, 0] : List Int) 3 = 0 from rfl] at hNv
   have gN1 : (NR == 0) = false := by simpa using gN
   have gN2 : (NR != 0) = true := by simpa using gN
   replace gN := hid gN
   clear h3 hNwR
   go_enter Try.func5, Try.ntmps5
   go_wp2_with fail
   refine (hg.out _).mono ?_; rintro e w1 ⟨rfl, hE⟩
   have X := hid (show Ext w w1 from exE)
   have t := hid (show C2 w1 w.heap.size (u) (c) from ⟨hE.cell (p := ⟨w.heap.size, 0, none⟩) (v := .int .i64 (u)) (by simp [go_sem]), hE.cell (p := ⟨w.heap.size, 1, none⟩) (v := .int .i64 (c)) (by simp [go_sem])⟩)
   have p := hid (show C4 w1 (w.heap.size + 1) (d) (b) (le) (co) from ⟨hE.cell (p := ⟨w.heap.size + 1, 0, none⟩) (v := .int .i64 (d)) (by simp [go_sem]), hE.cell (p := ⟨w.heap.size + 1, 1, none⟩) (v := .int .i64 (b)) (by simp [go_sem]), hE.cell (p := ⟨w.heap.size + 1, 2, none⟩) (v := .int .i64 (le)) (by simp [go_sem]), hE.cell (p := ⟨w.heap.size + 1, 3, none⟩) (v := .int .i64 (co)) (by simp [go_sem])⟩)
   replace hM := hid (hM.out.ext X.out)
   obtain ⟨T, hT⟩ : ∃ T, w.heap.size = T := ⟨_, rfl⟩
   rw [hT] at t p ⊢
   clear hE hg hT
   obtain ⟨o0, o1⟩ := t.out; have lo0 := cell_lt o0; dsimp only at lo0
   obtain ⟨o2, o3, o4, o5⟩ := p.out; have lo2 := cell_lt o2; dsimp only at lo2
   go_wp2_with fail
   refine name_c (fun v1 hv => ?_)
   have x1 : Ext w1 v1 := by rw [hv]; exact exE
   replace X := hid (X.out.trans x1); replace hM := hid (hM.out.ext x1); replace t := hid (t.out.ext x1); replace p := hid (p.out.ext x1)
   clear o0 o1 lo0 o2 o3 o4 o5 lo2
   clear hv x1
   refine (hKp.out _ hM.out).mono ?_; rintro e u2 ⟨rfl, hE⟩
   replace X := hid (X.out.trans hE); replace hM := hid (hM.out.ext hE); replace t := hid (t.out.ext hE); replace p := hid (p.out.ext hE)
   clear hE
   obtain ⟨o0, o1⟩ := t.out; have lo0 := cell_lt o0; dsimp only at lo0
   obtain ⟨o2, o3, o4, o5⟩ := p.out; have lo2 := cell_lt o2; dsimp only at lo2
   go_wp2_with fail
   refine name_c (fun v3 hv => ?_)
   have x1 : Ext u2 v3 := by rw [hv]; exact exE
   have b9 := hid (show C2 v3 u2.heap.size (Pn) (Pd) from ⟨by rw [hv]; simp [go_sem], by rw [hv]; simp [go_sem]⟩)
   replace X := hid (X.out.trans x1); replace hM := hid (hM.out.ext x1); replace t := hid (t.out.ext x1); replace p := hid (p.out.ext x1)
   clear o0 o1 lo0 o2 o3 o4 o5 lo2
   clear hv x1
   obtain ⟨Bb9, hBn⟩ : ∃ z, u2.heap.size = z := ⟨_, rfl⟩
   rw [hBn] at b9 ⊢
   clear hBn
   refine (hKq.out _ hM.out).mono ?_; rintro e u4 ⟨rfl, hE⟩
   replace X := hid (X.out.trans hE); replace hM := hid (hM.out.ext hE); replace t := hid (t.out.ext hE); replace p := hid (p.out.ext hE)
   replace b9 := hid (b9.out.ext hE)
   clear hE
   obtain ⟨o0, o1⟩ := t.out; have lo0 := cell_lt o0; dsimp only at lo0
   go_wp2_with fail
   refine name_c (fun v5 hv => ?_)
   have x1 : Ext u4 v5 := by rw [hv]; exact exE
   have b11 := hid (show C2 v5 u4.heap.size (Pn) (Pd) from ⟨by rw [hv]; simp [go_sem], by rw [hv]; simp [go_sem]⟩)
   replace X := hid (X.out.trans x1); replace hM := hid (hM.out.ext x1); replace t := hid (t.out.ext x1); replace p := hid (p.out.ext x1)
   replace b9 := hid (b9.out.ext x1)
   clear o0 o1 lo0
   clear hv x1
   obtain ⟨Bb11, hBn⟩ : ∃ z, u4.heap.size = z := ⟨_, rfl⟩
   rw [hBn] at b11 ⊢
   clear hBn
   refine (hL.out _ hM.out).mono ?_; rintro e u6 ⟨rfl, hE⟩
   replace X := hid (X.out.trans hE); replace hM := hid (hM.out.ext hE); replace t := hid (t.out.ext hE); replace p := hid (p.out.ext hE)
   replace b9 := hid (b9.out.ext hE); replace b11 := hid (b11.out.ext hE)
   clear hE
   obtain ⟨o0, o1⟩ := t.out; have lo0 := cell_lt o0; dsimp only at lo0
   go_wp2_with fail
   refine name_c (fun v7 hv => ?_)
   have x1 : Ext u6 v7 := by rw [hv]; exact exE
   have b13 := hid (show C2 v7 u6.heap.size (LN) (LD) from ⟨by rw [hv]; simp [go_sem], by rw [hv]; simp [go_sem]⟩)
   replace X := hid (X.out.trans x1); replace hM := hid (hM.out.ext x1); replace t := hid (t.out.ext x1); replace p := hid (p.out.ext x1)
   replace b9 := hid (b9.out.ext x1); replace b11 := hid (b11.out.ext x1)
   clear o0 o1 lo0
   clear hv x1
   obtain ⟨Bb13, hBn⟩ : ∃ z, u6.heap.size = z := ⟨_, rfl⟩
   rw [hBn] at b13 ⊢
   clear hBn
   refine (hPr.out _ hM.out).mono ?_; rintro e u8 ⟨rfl, hE⟩
   replace X := hid (X.out.trans hE); replace hM := hid (hM.out.ext hE); replace t := hid (t.out.ext hE); replace p := hid (p.out.ext hE)
   replace b9 := hid (b9.out.ext hE); replace b11 := hid (b11.out.ext hE); replace b13 := hid (b13.out.ext hE)
   clear hE
   obtain ⟨o0, o1⟩ := t.out; have lo0 := cell_lt o0; dsimp only at lo0
   go_wp2_with fail
   refine name_c (fun v9 hv => ?_)
   have x1 : Ext u8 v9 := by rw [hv]; exact exE
   have b15 := hid (show C4 v9 u8.heap.size (0) (0) (0) (0) from ⟨by rw [hv]; simp [go_sem], by rw [hv]; simp [go_sem], by rw [hv]; simp [go_sem], by rw [hv]; simp [go_sem]⟩)
   replace X := hid (X.out.trans x1); replace hM := hid (hM.out.ext x1); replace t := hid (t.out.ext x1); replace p := hid (p.out.ext x1)
   replace b9 := hid (b9.out.ext x1); replace b11 := hid (b11.out.ext x1); replace b13 := hid (b13.out.ext x1)
   clear o0 o1 lo0
   clear hv x1
   obtain ⟨Bb15, hBn⟩ : ∃ z, u8.heap.size = z := ⟨_, rfl⟩
   rw [hBn] at b15 ⊢
   clear hBn
   refine (hNv.out _ hM.out).mono ?_; rintro e u10 ⟨rfl, hE⟩
   replace X := hid (X.out.trans hE); replace hM := hid (hM.out.ext hE); replace t := hid (t.out.ext hE); replace p := hid (p.out.ext hE)
   replace b9 := hid (b9.out.ext hE); replace b11 := hid (b11.out.ext hE); replace b13 := hid (b13.out.ext hE); replace b15 := hid (b15.out.ext hE)
   clear hE
   go_upto_region 8 with (fail)
   refine name_wp (fun v11 hv => ?_)
   have x1 : Ext u10 v11 := by rw [hv]; exact exE
   have b17 := hid (show C4 v11 u10.heap.size (0) (0) (0) (0) from ⟨by rw [hv]; simp [go_sem], by rw [hv]; simp [go_sem], by rw [hv]; simp [go_sem], by rw [hv]; simp [go_sem]⟩)
   replace X := hid (X.out.trans x1); replace hM := hid (hM.out.ext x1); replace t := hid (t.out.ext x1); replace p := hid (p.out.ext x1)
   replace b9 := hid (b9.out.ext x1); replace b11 := hid (b11.out.ext x1); replace b13 := hid (b13.out.ext x1); replace b15 := hid (b15.out.ext x1)
   clear hv x1
   obtain ⟨Bb17, hBn⟩ : ∃ z, u10.heap.size = z := ⟨_, rfl⟩
   rw [hBn] at b17 ⊢
   clear hBn
   refine wp_mono (stQ8 rfl hNp.out hNpR.out hNe.out hM.out t.out.1 t.out.2 p.out.1 p.out.2.1 p.out.2.2.1 p.out.2.2.2 b9.out.1 b9.out.2 b11.out.1 b11.out.2) ?_
   rintro e a' v98 ⟨rfl, rfl, xx⟩
   replace X := hid (X.out.trans xx); replace hM := hid (hM.out.ext xx); replace t := hid (t.out.ext xx); replace p := hid (p.out.ext xx)
   replace b9 := hid (b9.out.ext xx); replace b11 := hid (b11.out.ext xx); replace b13 := hid (b13.out.ext xx); replace b15 := hid (b15.out.ext xx)
   replace b17 := hid (b17.out.ext xx)
   clear xx
   obtain ⟨o0, o1, o2, o3⟩ := b15.out; have lo0 := cell_lt o0; dsimp only at lo0
   obtain ⟨o4, o5, o6, o7⟩ := b17.out; have lo4 := cell_lt o4; dsimp only at lo4
   go_wp2_with fail
   refine (works_any _).mono ?_; rintro e w9 ⟨rfl, hE9⟩
   have X9 := hid (X.out.trans (show Ext v98 w9 from exE))
   go_wp2_with fail
   go_ret
   exact ⟨rfl, X9.out⟩
end Go.Proofs.Ytpnfhcnnodolbaa
