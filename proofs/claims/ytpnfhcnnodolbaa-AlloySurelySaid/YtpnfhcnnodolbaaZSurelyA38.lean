/- Texts of one proof, laid together: Leq, Min, Lbd, Lls, Knp, Sur, Llt, Kna, Kno, LaYa, LaY. -/
import Derived.Test.YtpnfhcnnodolbaaZSurelyA37
import Derived.Test.YtpnfhcnnodolbaaZY26
import Derived.Test.YtpnfhcnnodolbaaZY10
import Derived.Test.YtpnfhcnnodolbaaZY7
import Derived.Test.YtpnfhcnnodolbaaZY2
import Derived.Test.YtpnfhcnnodolbaaZSurelyA34
import Derived.Test.YtpnfhcnnodolbaaZY25
import Derived.Test.YtpnfhcnnodolbaaZY11
import Derived.Test.YtpnfhcnnodolbaaZY4
import Derived.Test.YtpnfhcnnodolbaaZY18
import Derived.Test.YtpnfhcnnodolbaaZY17
import Derived.Test.YtpnfhcnnodolbaaZY16
import Derived.Test.YtpnfhcnnodolbaaZY8
import Derived.Test.YtpnfhcnnodolbaaZSurelyA35
import Derived.Test.YtpnfhcnnodolbaaZY12
import Derived.Test.YtpnfhcnnodolbaaZY3
import Derived.Test.YtpnfhcnnodolbaaZSurelyA36
import Derived.Test.YtpnfhcnnodolbaaZY22
import Derived.Test.YtpnfhcnnodolbaaZY20
import Derived.Test.YtpnfhcnnodolbaaZY21
import Derived.Test.YtpnfhcnnodolbaaZY9
import Derived.Test.YtpnfhcnnodolbaaZY5
import Derived.Test.YtpnfhcnnodolbaaZY13
import Derived.Test.YtpnfhcnnodolbaaZY19
import Derived.Test.YtpnfhcnnodolbaaZY1
import Derived.Test.YtpnfhcnnodolbaaZY30
import Derived.Test.YtpnfhcnnodolbaaZY28
import Derived.Test.YtpnfhcnnodolbaaZY23
import Derived.Test.YtpnfhcnnodolbaaZY14
import Derived.Test.YtpnfhcnnodolbaaZY27
import Derived.Test.YtpnfhcnnodolbaaZY6
import Derived.Test.YtpnfhcnnodolbaaZY31
import Derived.Test.YtpnfhcnnodolbaaZY29
import Derived.Test.YtpnfhcnnodolbaaZY32
import Derived.Test.YtpnfhcnnodolbaaZY33
set_option linter.unusedVariables false
set_option linter.unusedSimpArgs false
set_option linter.unusedSectionVars false
set_option linter.unnecessarySimpa false
set_option maxRecDepth 100000
namespace Go.Proofs.Ytpnfhcnnodolbaa
open Go Go.RowKit Game
theorem bstN_best {lt : Nat → Nat → Bool} {n : Nat} (irr : ∀ i, i < n → lt i i = false) (tr : ∀ i j k, i < n → j < n → k < n → lt i j = true → lt j k = true → lt i k = true) :
 ∀ k, k < n → ∀ j, j ≤ k → lt j (bstN lt k) = false
 | 0, h0, j, hj => by obtain rfl : j = 0 := by omega
                      exact irr 0 h0
 | k + 1, hk, j, hj => by
  have ih := bstN_best irr tr k (by omega)
  have hle := bstN_le lt k
  simp only [bstN]
  by_cases g : lt (k + 1) (bstN lt k) = true
  ·rw [if_pos g]
   by_cases e : j = k + 1
   ·subst e; exact irr _ hk
   ·rw [Bool.eq_false_iff]
    intro h
    have := tr j (k + 1) (bstN lt k) (by omega) hk (by omega) h g
    rw [ih j (by omega)] at this
    cases this
  ·rw [if_neg g]
   by_cases e : j = k + 1
   ·subst e; exact (Bool.eq_false_iff).2 g
   ·exact ih j (by omega)
theorem ltC_iff {l : List Met} {x y : List Int} (hx : Xok l x) (hy : Xok l y) : ltC l x y = decide (costN l x l.length * psum y < costN l y l.length * psum x) := rat_lt hx.pos hy.pos
theorem lt_trans3 {a b c p q r : Int} (hp : 0 < p) (hq : 0 < q) (hr : 0 < r) (h1 : a * q < b * p) (h2 : b * r < c * q) : a * r < c * p := by
 have e1 := Int.mul_lt_mul_of_pos_right h1 hr
 have e2 := Int.mul_lt_mul_of_pos_right h2 hp
 refine Int.lt_of_mul_lt_mul_right (a := q) ?_ (by omega)
 rw [show a * r * q = a * q * r by grind, show c * p * q = c * q * p by grind]
 rw [show b * p * r = b * r * p by grind] at e1
 exact Int.lt_trans e1 e2
theorem best_min {l : List Met} {L : List (List Int)} (hL : ∀ x ∈ L, Xok l x) (h0 : 0 < L.length) {y : List Int} (hy : y ∈ L) :
 ltC l y (row L (bstN (fun i j => ltC l (row L i) (row L j)) (L.length - 1))) = false := by
 have ok : ∀ i, i < L.length → Xok l (row L i) := fun i hi => hL _ (by rw [row_lt hi]; exact List.getElem_mem hi)
 obtain ⟨j, hj, e⟩ := List.getElem_of_mem hy
 have := bstN_best (lt := fun i j => ltC l (row L i) (row L j)) (n := L.length)
  (fun i hi => by rw [ltC_iff (ok i hi) (ok i hi), decide_eq_false_iff_not]; omega)
  (fun a b d ha hb hd h1 h2 => by
   rw [ltC_iff (ok a ha) (ok b hb), decide_eq_true_eq] at h1
   rw [ltC_iff (ok b hb) (ok d hd), decide_eq_true_eq] at h2
   rw [ltC_iff (ok a ha) (ok d hd), decide_eq_true_eq]
   exact lt_trans3 (ok a ha).pos (ok b hb).pos (ok d hd).pos h1 h2) (L.length - 1) (by omega) j (by omega)
 rw [← e, ← row_lt hj]
 exact this
theorem edges_zero {l : List Met} (v : VldM l) {u c : Int} (hu : 0 ≤ u ∧ u ≤ 1000) (hc : 0 ≤ c ∧ c ≤ 1000) (s : Bool) : (edP l u c s).length = 0 ↔ (edg l u c s).length = 0 := by
 constructor
 ·intro h
  have h1 := List.eq_nil_of_length_eq_zero h
  refine Classical.byContradiction fun g => ?_
  have := edg_sub v hu hc (s := s) (List.getElem_mem (show 0 < (edg l u c s).length by omega))
  rw [h1] at this; simp at this
 ·intro h
  have h1 := List.eq_nil_of_length_eq_zero h
  refine Classical.byContradiction fun g => ?_
  have := edP_sub v hu hc (s := s) (List.getElem_mem (show 0 < (edP l u c s).length by omega))
  rw [h1] at this; simp at this
theorem che_eq (l : List Met) (u c : Int) (s : Bool) : cheE l u c s = lrE l u c s := by
 unfold cheE lrE
 by_cases g : ¬ chkB l u c = 0
 ·rw [if_pos g, if_pos g]
 ·rw [if_neg g, if_neg g]
  obtain ⟨v, hu, hc⟩ := chkB_ok (Decidable.not_not.1 g)
  have := edges_zero v hu hc s
  by_cases h : (edP l u c s).length = 0
  ·rw [if_pos h, if_pos (this.1 h)]
  ·rw [if_neg h, if_neg (fun h' => h (this.2 h'))]
def exT (l : List Met) (u c : Int) (s : Bool) (i j : Nat) : Int := if j = 0 then - exA l u c s i else - exC l u c s i
structure Gx (l : List Met) (u c : Int) (s : Bool) (x : List Int) : Prop where
 len : x.length = l.length
 nn : ∀ i, 0 ≤ nth x i
 ps : 0 < psum x
 gd : isG l u c s x = true
theorem exT_sum {l : List Met} (u c : Int) (s : Bool) {x : List Int} (hl : x.length = l.length) :
 ag (exT l u c s) l.length (nth x) 0 = u * psum x - ledN l s x l.length ∧ ag (exT l u c s) l.length (nth x) 1 = copN l s x l.length - c * psum x := by
 constructor
 ·have e : ag (exT l u c s) l.length (nth x) 0 = sm l.length (fun i => u * nth x i + (-1) * (nth x i * badL (mtl l i) s)) := sm_congr fun i _ => by simp [exT, exA, spr]; grind
  rw [e, sm_lin (x := nth x) (z := fun i => nth x i * badL (mtl l i) s)]
  unfold ledN psum; rw [hl]; omega
 ·have e : ag (exT l u c s) l.length (nth x) 1 = sm l.length (fun i => (-c) * nth x i + 1 * (nth x i * goodC (mtl l i) s)) := sm_congr fun i _ => by simp [exT, exC, spr]; grind
  rw [e, sm_lin (x := nth x) (z := fun i => nth x i * goodC (mtl l i) s)]
  unfold copN psum; rw [hl, Int.neg_mul]; omega
theorem isG_iff {l : List Met} {u c : Int} {s : Bool} {x : List Int} (hl : x.length = l.length) : isG l u c s x = true ↔ Al (exT l u c s) l.length 2 (nth x) := by
 obtain ⟨a, b⟩ := exT_sum u c s hl
 unfold isG Al
 rw [Bool.and_eq_true, decide_eq_true_eq, decide_eq_true_eq]
 constructor
 ·intro h j hj
  obtain rfl | rfl : j = 0 ∨ j = 1 := by omega
  ·omega
  ·omega
 ·intro h
  have h0 := h 0 (by omega)
  have h1 := h 1 (by omega)
  omega
theorem ab_abs (p : Int) : ab p = absI p := by unfold ab absI; split <;> split <;> omega
theorem sgn2_of {a0 a1 : Int} (h : Gd [a0, a1]) : ((0 ≤ a0 ∧ 0 ≤ a1) ∨ (a0 ≤ 0 ∧ a1 ≤ 0)) ∧ (a0 ≠ 0 ∨ a1 ≠ 0) := by
 obtain ⟨⟨a, ha, hne⟩, hno⟩ := h
 constructor
 ·refine Classical.byContradiction fun hc => hno ?_
  have h1 : a0 < 0 ∨ a1 < 0 := by omega
  have h2 : 0 < a0 ∨ 0 < a1 := by omega
  exact ⟨h1.elim (fun h => ⟨a0, by simp, h⟩) (fun h => ⟨a1, by simp, h⟩), h2.elim (fun h => ⟨a0, by simp, h⟩) (fun h => ⟨a1, by simp, h⟩)⟩
 ·simp at ha; rcases ha with rfl | rfl
  ·exact .inl hne
  ·exact .inr hne
theorem sgn3_of {a0 a1 a2 : Int} (h : Gd [a0, a1, a2]) : ((0 ≤ a0 ∧ 0 ≤ a1 ∧ 0 ≤ a2) ∨ (a0 ≤ 0 ∧ a1 ≤ 0 ∧ a2 ≤ 0)) ∧ (a0 ≠ 0 ∨ a1 ≠ 0 ∨ a2 ≠ 0) := by
 obtain ⟨⟨a, ha, hne⟩, hno⟩ := h
 constructor
 ·refine Classical.byContradiction fun hc => hno ?_
  have h1 : a0 < 0 ∨ a1 < 0 ∨ a2 < 0 := by omega
  have h2 : 0 < a0 ∨ 0 < a1 ∨ 0 < a2 := by omega
  refine ⟨?_, ?_⟩
  ·rcases h1 with h | h | h
   ·exact ⟨a0, by simp, h⟩
   ·exact ⟨a1, by simp, h⟩
   ·exact ⟨a2, by simp, h⟩
  ·rcases h2 with h | h | h
   ·exact ⟨a0, by simp, h⟩
   ·exact ⟨a1, by simp, h⟩
   ·exact ⟨a2, by simp, h⟩
 ·simp at ha; rcases ha with rfl | rfl | rfl
  ·exact .inl hne
  ·exact .inr (.inl hne)
  ·exact .inr (.inr hne)
theorem sgnP2 {p0 p1 : Int} (h : (0 ≤ p0 ∧ 0 ≤ p1) ∨ (p0 ≤ 0 ∧ p1 ≤ 0)) (h2 : p0 ≠ 0 ∨ p1 ≠ 0) : SgnP 2 (nth [p0, p1]) := by
 refine ⟨?_, ?_⟩
 ·rcases h with h | h
  ·exact .inl (two_cases h.1 h.2)
  ·exact .inr (two_cases h.1 h.2)
 ·rcases h2 with h | h
  ·exact ⟨0, by omega, h⟩
  ·exact ⟨1, by omega, h⟩
theorem sgnP3 {p0 p1 p2 : Int} (h : (0 ≤ p0 ∧ 0 ≤ p1 ∧ 0 ≤ p2) ∨ (p0 ≤ 0 ∧ p1 ≤ 0 ∧ p2 ≤ 0)) (h2 : p0 ≠ 0 ∨ p1 ≠ 0 ∨ p2 ≠ 0) : SgnP 3 (nth [p0, p1, p2]) := by
 refine ⟨?_, ?_⟩
 ·rcases h with h | h
  ·exact .inl (three_cases h.1 h.2.1 h.2.2)
  ·exact .inr (three_cases h.1 h.2.1 h.2.2)
 ·rcases h2 with h | h | h
  ·exact ⟨0, by omega, h⟩
  ·exact ⟨1, by omega, h⟩
  ·exact ⟨2, by omega, h⟩
theorem put_eq {n : Nat} {t : List Nat} {p : List Int} (n1 : 1 ≤ n) (hs : SgnP p.length (nth p)) (ht : ∀ k, k < p.length → t.getD k 0 < n) (hd : ∀ j k, j < k → k < p.length → t.getD j 0 ≠ t.getD k 0)
 (e : Nat → Int) (h1 : ∀ k, k < p.length → e (t.getD k 0) = absI (nth p k)) (h2 : ∀ i, (∀ k, k < p.length → t.getD k 0 ≠ i) → e i = 0) : mkL n e = putL n t p := by
 have hl := (putL_iff (t := t) n1).2 hs
 refine list_ext_nth (by rw [mkL_len, hl]) fun i hi => ?_
 rw [mkL_len] at hi
 rw [mkL_nth _ hi, (putL_out n1 hl).1]
 by_cases g : ∃ k, k < p.length ∧ t.getD k 0 = i
 ·obtain ⟨k, hk, rfl⟩ := g
  rw [out_at ht hd _ (Nat.le_refl _) k hk, h1 k hk]
 ·have h3 : ∀ k, k < p.length → t.getD k 0 ≠ i := fun k hk e => g ⟨k, hk, e⟩
  rw [out_else h3 _ (Nat.le_refl _), h2 i h3]
theorem edge_in {l : List Met} (v : VldM l) {u c : Int} {s : Bool} {e : Nat → Int} (he : EdgeA (exT l u c s) l.length e) (hA : Al (exT l u c s) l.length 2 e) : mkL l.length e ∈ edg l u c s := by
 have n1 := v.n1
 have hg : isG l u c s (mkL l.length e) = true := by
  rw [isG_iff (mkL_len _ _)]
  intro j hj
  have := hA j hj
  rw [show ag (exT l u c s) l.length (nth (mkL l.length e)) j = ag (exT l u c s) l.length e j from sm_congr fun i hi => by rw [mkL_nth _ hi]]
  exact this
 refine edg_in ?_ (mkL_len _ _) hg
 rcases he with ⟨a, ha, rfl⟩ | ⟨a, b, j, hab, hb, hj, hGd, rfl⟩ | ⟨a, b, d, hab, hbd, hd, hGd, rfl⟩
 ·refine .inl ⟨a, ha, put_eq n1 (by refine ⟨.inl fun k hk => ?_, 0, by simp, by decide⟩; (have : k = 0 := by simpa using hk); subst this; decide) (fun k hk => ?_) (fun j k hjk hk => ?_) _ (fun k hk => ?_) (fun i hi => ?_)⟩
  ·have : k = 0 := by simpa using hk
   subst this; simpa using ha
  ·simp at hk; omega
  ·have : k = 0 := by simpa using hk
   subst this; simp [put, ab, absI, nth]
  ·have := hi 0 (by simp)
   simp only [List.getD_cons_zero] at this
   simp only [List.map, put, if_neg (Ne.symm this)]
 ·obtain ⟨h1, h2⟩ := sgn2_of hGd
  have hne : ¬ b = a := by omega
  have main : ∀ X : Nat → Int, (∀ i, exT l u c s i j = - X i) → mkL l.length (put [a, b] ([exT l u c s b j, - exT l u c s a j].map ab)) = putL l.length [b, a] [X a, - X b] := fun X hX => by
   rw [hX, hX] at h1 h2 ⊢
   refine put_eq (p := [X a, - X b]) n1 (sgnP2 (by omega) (by omega)) (fun k hk => ?_) (fun j k hjk hk => ?_) _ (fun k hk => ?_) (fun i hi => ?_)
   ·rcases k with _ | _ | k <;> simp at hk ⊢ <;> omega
   ·rcases k with _ | _ | k
    ·omega
    ·obtain rfl : j = 0 := by omega
     simp; omega
    ·simp at hk; omega
   ·rcases k with _ | _ | k
    ·simp only [List.getD_cons_zero, List.map, put, if_neg hne, if_true, nth_zero, ab_abs, Int.neg_neg]
    ·simp only [List.getD_cons_zero, List.getD_cons_succ, List.map, put, if_true, nth_succ, nth_zero, ab_abs]
    ·simp at hk; omega
   ·have i0 := hi 0 (by simp)
    have i1 := hi 1 (by simp)
    simp only [List.getD_cons_zero, List.getD_cons_succ] at i0 i1
    simp only [List.map, put, if_neg (Ne.symm i1), if_neg (Ne.symm i0)]
  refine .inr (.inl ⟨b, a, hab, hb, ?_⟩)
  obtain rfl | rfl : j = 0 ∨ j = 1 := by omega
  ·exact .inl (main (exA l u c s) fun i => by simp [exT])
  ·exact .inr (main (exC l u c s) fun i => by simp [exT])
 ·obtain ⟨h1, h2⟩ := sgn3_of hGd
  have hba : ¬ b = a := by omega
  have hda : ¬ d = a := by omega
  have hdb : ¬ d = b := by omega
  refine .inr (.inr ⟨d, b, a, hab, hbd, hd, ?_⟩)
  have hX : ∀ i, exT l u c s i 0 = - exA l u c s i := fun i => by simp [exT]
  have hY : ∀ i, exT l u c s i 1 = - exC l u c s i := fun i => by simp [exT]
  generalize hp0 : exT l u c s b 0 * exT l u c s d 1 - exT l u c s b 1 * exT l u c s d 0 = g0 at h1 h2 ⊢
  generalize hp1 : exT l u c s d 0 * exT l u c s a 1 - exT l u c s d 1 * exT l u c s a 0 = g1 at h1 h2 ⊢
  generalize hp2 : exT l u c s a 0 * exT l u c s b 1 - exT l u c s a 1 * exT l u c s b 0 = g2 at h1 h2 ⊢
  rw [hX, hX, hY, hY] at hp0 hp1 hp2
  have q0 : exA l u c s b * exC l u c s a - exC l u c s b * exA l u c s a = - g2 := by grind
  have q1 : exA l u c s a * exC l u c s d - exC l u c s a * exA l u c s d = - g1 := by grind
  have q2 : exA l u c s d * exC l u c s b - exC l u c s d * exA l u c s b = - g0 := by grind
  rw [q0, q1, q2]
  refine put_eq (p := [- g2, - g1, - g0]) n1 (sgnP3 (by omega) (by omega)) (fun k hk => ?_) (fun j k hjk hk => ?_) _ (fun k hk => ?_) (fun i hi => ?_)
  ·rcases k with _ | _ | _ | k <;> simp at hk ⊢ <;> omega
  ·rcases k with _ | _ | _ | k
   ·omega
   ·obtain rfl : j = 0 := by omega
    simp; omega
   ·have : j = 0 ∨ j = 1 := by omega
    rcases this with rfl | rfl <;> simp <;> omega
   ·simp at hk; omega
  ·rcases k with _ | _ | _ | k
   ·simp only [List.getD_cons_zero, List.map, put, if_neg hda, if_neg hdb, if_true, nth_zero, ab_abs, absI_neg]
   ·simp only [List.getD_cons_zero, List.getD_cons_succ, List.map, put, if_neg hba, if_true, nth_succ, nth_zero, ab_abs, absI_neg]
   ·simp only [List.getD_cons_zero, List.getD_cons_succ, List.map, put, if_true, nth_succ, nth_zero, ab_abs, absI_neg]
   ·simp at hk; omega
  ·have i0 := hi 0 (by simp)
   have i1 := hi 1 (by simp)
   have i2 := hi 2 (by simp)
   simp only [List.getD_cons_zero, List.getD_cons_succ] at i0 i1 i2
   simp only [List.map, put, if_neg (Ne.symm i2), if_neg (Ne.symm i1), if_neg (Ne.symm i0)]
def fsm (l : List Met) (f : Nat → Int) (x : List Int) : Int := sm l.length fun i => nth x i * f i
theorem edge_min {l : List Met} (v : VldM l) {u c : Int} {s : Bool} (f : Nat → Int) {x : List Int} (g : Gx l u c s x) : ∃ y, y ∈ edg l u c s ∧ fsm l f y * psum x ≤ fsm l f x * psum y := by
 have hx : Pl l.length (nth x) := ⟨fun i _ => g.nn i, by have := g.ps; unfold psum at this; rw [g.len] at this; exact this⟩
 obtain ⟨e, he, hp, hA, hle⟩ := edge_le f hx ((isG_iff g.len).1 g.gd)
 refine ⟨mkL l.length e, edge_in v he hA, ?_⟩
 have e1 : fsm l f (mkL l.length e) = co f l.length e := sm_congr fun i hi => by rw [mkL_nth _ hi]
 have e2 : psum (mkL l.length e) = sm l.length e := by unfold psum; rw [mkL_len]; exact sm_congr fun i hi => by rw [mkL_nth _ hi]
 have e3 : psum x = sm l.length (nth x) := by unfold psum; rw [g.len]
 rw [e1, e2, e3]
 exact hle
theorem edg_gx {l : List Met} (v : VldM l) {u c : Int} (hu : 0 ≤ u ∧ u ≤ 1000) (hc : 0 ≤ c ∧ c ≤ 1000) {s : Bool} {x : List Int} (h : x ∈ edg l u c s) : Gx l u c s x := by
 obtain ⟨a, b, _⟩ := edg_ok v hu hc h
 exact ⟨a.len, fun i => (a.prt i).1, a.pos, b⟩
theorem gx_che {l : List Met} {u c : Int} (hB : chkB l u c = 0) (s : Bool) : cheE l u c s = 0 ↔ ∃ x, Gx l u c s x := by
 obtain ⟨v, hu, hc⟩ := chkB_ok hB
 rw [che_eq]
 unfold lrE
 rw [if_neg (fun h => h hB)]
 constructor
 ·intro h
  have h0 : 0 < (edg l u c s).length := by
   refine Classical.byContradiction fun g => ?_
   rw [if_pos (by omega)] at h; cases h
  exact ⟨_, edg_gx v hu hc (List.getElem_mem h0)⟩
 ·rintro ⟨x, g⟩
  obtain ⟨y, hy, _⟩ := edge_min v (fun _ => 0) g
  have : (edg l u c s).length ≠ 0 := fun e => by
   have := List.eq_nil_of_length_eq_zero e
   rw [this] at hy; simp at hy
  rw [if_neg this]
theorem che_two {l : List Met} {u c : Int} (hB : chkB l u c = 0) (s : Bool) : cheE l u c s = 0 ∨ cheE l u c s = 17 := by
 unfold cheE
 rw [if_neg (fun h => h hB)]
 split
 ·exact .inr rfl
 ·exact .inl rfl
theorem che_pos {l : List Met} {u c : Int} (hB : chkB l u c = 0) {s : Bool} (h : cheE l u c s = 0) : 0 < (edP l u c s).length := by
 refine Classical.byContradiction fun g => ?_
 unfold cheE at h
 rw [if_neg (fun h' => h' hB), if_pos (by omega)] at h; cases h
theorem chp_gx {l : List Met} {u c : Int} (hB : chkB l u c = 0) {s : Bool} (h : cheE l u c s = 0) : Gx l u c s (chpL l u c s) ∧ chpL l u c s ∈ edg l u c s := by
 obtain ⟨v, hu, hc⟩ := chkB_ok hB
 have := edP_sub v hu hc (chp_mem (che_pos hB h))
 exact ⟨edg_gx v hu hc this, this⟩
theorem chp_le {l : List Met} {u c : Int} (hB : chkB l u c = 0) {s : Bool} (h : cheE l u c s = 0) {x : List Int} (g : Gx l u c s x) :
 costN l (chpL l u c s) l.length * psum x ≤ costN l x l.length * psum (chpL l u c s) := by
 obtain ⟨v, hu, hc⟩ := chkB_ok hB
 obtain ⟨y, hy, hle⟩ := edge_min v (fun i => (mtl l i).p) g
 have o := edP_ok v hu hc (chp_mem (che_pos hB h))
 have oy := edg_ok v hu hc hy
 have m := best_min (fun x hx => (edP_ok v hu hc hx).1) (che_pos hB h) (edg_sub v hu hc hy)
 change ltC l y (chpL l u c s) = false at m
 rw [ltC_iff oy.1 o.1, decide_eq_false_iff_not] at m
 change costN l y l.length * psum x ≤ costN l x l.length * psum y at hle
 refine ratio_trans oy.1.pos o.1.pos g.ps (c := costN l y l.length) ?_ hle
 omega
theorem mle {p q B : Int} (hp : 0 ≤ p) (hq : q ≤ B) : p * q ≤ B * p := by
 have := Int.mul_le_mul_of_nonneg_left hq hp
 rw [Int.mul_comm B p]; exact this
theorem cross_le {u c a1 b1 a2 b2 : Int} (hu : 0 ≤ u ∧ u ≤ 1000) (hc : 0 ≤ c ∧ c ≤ 1000) (h1 : -u ≤ a1 ∧ a1 ≤ 1000 - u) (h2 : -u ≤ b1 ∧ b1 ≤ 1000 - u) (h3 : c - 1000 ≤ a2 ∧ a2 ≤ c) (h4 : c - 1000 ≤ b2 ∧ b2 ≤ c) : a1 * b2 - a2 * b1 ≤ 1000000 := by
 have n1 : ∀ p q : Int, 0 ≤ p → q ≤ 0 → p * q ≤ 0 := fun p q hp hq => Int.mul_nonpos_of_nonneg_of_nonpos hp hq
 have n2 : ∀ p q : Int, 0 ≤ p → 0 ≤ q → 0 ≤ p * q := fun p q hp hq => Int.mul_nonneg hp hq
 rcases Int.le_total 0 a1 with s1 | s1 <;> rcases Int.le_total 0 b2 with s4 | s4 <;> rcases Int.le_total 0 a2 with s3 | s3 <;> rcases Int.le_total 0 b1 with s2 | s2
 ·have := n2 _ _ s3 s2; have := mle (B := 1000) s1 (show b2 ≤ 1000 by omega); omega
 ·have e : a2 * b1 = - (-b1 * a2) := by grind
  have := mle (B := 1000) s1 (show b2 ≤ 1000 by omega); have := mle (B := 1000) (show 0 ≤ -b1 by omega) (show a2 ≤ 1000 by omega); omega
 ·have e : a2 * b1 = - (-a2 * b1) := by grind
  have e2 : a1 * b2 = b2 * a1 := by grind
  have := mle (B := 1000) s4 (show a1 ≤ 1000 by omega); have := mle (B := 1000) (show 0 ≤ -a2 by omega) (show b1 ≤ 1000 by omega); omega
 ·have e : a2 * b1 = (-a2) * (-b1) := by grind
  have := n2 (-a2) (-b1) (by omega) (by omega); have := mle (B := 1000) s1 (show b2 ≤ 1000 by omega); omega
 ·have := n1 _ _ s1 s4; have := n2 _ _ s3 s2; omega
 ·have e : a2 * b1 = - (-b1 * a2) := by grind
  have := n1 _ _ s1 s4; have := mle (B := 1000) (show 0 ≤ -b1 by omega) (show a2 ≤ 1000 by omega); omega
 ·have e : a2 * b1 = - (-a2 * b1) := by grind
  have := n1 _ _ s1 s4; have := mle (B := 1000) (show 0 ≤ -a2 by omega) (show b1 ≤ 1000 by omega); omega
 ·have e : a2 * b1 = (-a2) * (-b1) := by grind
  have := n1 _ _ s1 s4; have := n2 (-a2) (-b1) (by omega) (by omega); omega
 ·have e2 : a1 * b2 = b2 * a1 := by grind
  have := n1 _ _ s4 s1; have := n2 _ _ s3 s2; omega
 ·have e2 : a1 * b2 = b2 * a1 := by grind
  have e : a2 * b1 = - (-b1 * a2) := by grind
  have := n1 _ _ s4 s1; have := mle (B := 1000) (show 0 ≤ -b1 by omega) (show a2 ≤ 1000 by omega); omega
 ·have e2 : a1 * b2 = b2 * a1 := by grind
  have e : a2 * b1 = - (-a2 * b1) := by grind
  have := n1 _ _ s4 s1; have := mle (B := 1000) (show 0 ≤ -a2 by omega) (show b1 ≤ 1000 by omega); omega
 ·have e2 : a1 * b2 = b2 * a1 := by grind
  have e : a2 * b1 = (-a2) * (-b1) := by grind
  have := n1 _ _ s4 s1; have := n2 (-a2) (-b1) (by omega) (by omega); omega
 ·have e2 : a1 * b2 = (-a1) * (-b2) := by grind
  have := n2 _ _ s3 s2; have := mle (B := 1000) (show 0 ≤ -a1 by omega) (show -b2 ≤ 1000 by omega); omega
 ·have e2 : a1 * b2 = (-b2) * (-a1) := by grind
  have e : a2 * b1 = - (a2 * -b1) := by grind
  have := mle (B := 1000) (show 0 ≤ -b2 by omega) (show -a1 ≤ 1000 by omega); have := mle (B := 1000) s3 (show -b1 ≤ 1000 by omega); omega
 ·have e2 : a1 * b2 = (-a1) * (-b2) := by grind
  have e : a2 * b1 = - (b1 * -a2) := by grind
  have := mle (B := 1000) (show 0 ≤ -a1 by omega) (show -b2 ≤ 1000 by omega); have := mle (B := 1000) s2 (show -a2 ≤ 1000 by omega); omega
 ·have e2 : a1 * b2 = (-a1) * (-b2) := by grind
  have e : a2 * b1 = (-a2) * (-b1) := by grind
  have := n2 (-a2) (-b1) (by omega) (by omega); have := mle (B := 1000) (show 0 ≤ -a1 by omega) (show -b2 ≤ 1000 by omega); omega
theorem absI_le {x B : Int} (h1 : x ≤ B) (h2 : -x ≤ B) : absI x ≤ B := by unfold absI; split <;> omega
theorem out_le {n : Nat} {t : List Nat} {p : List Int} {B : Int} (hB : 0 ≤ B) (h : ∀ k, k < p.length → absI (nth p k) ≤ B) (i : Nat) : ∀ K, K ≤ p.length → nth (outN n t p K) i ≤ B
 | 0, _ => by
  have : nth (outN n t p 0) i = 0 := by simp [outN, nth, List.getElem?_replicate]; split <;> rfl
  omega
 | K + 1, hK => by
  simp only [outN]
  rw [nth_set_]
  split
  ·exact h K (by omega)
  ·exact out_le hB h i K (by omega)
theorem putL_le {n : Nat} {t : List Nat} {p : List Int} {B : Int} (n1 : 1 ≤ n) (hl : (putL n t p).length = n) (hB : 0 ≤ B) (h : ∀ k, k < p.length → absI (nth p k) ≤ B) (i : Nat) : nth (putL n t p) i ≤ B := by
 rw [(putL_out n1 hl).1]
 exact out_le hB h i _ (Nat.le_refl _)
theorem exA_rg {l : List Met} (v : VldM l) (u c : Int) (s : Bool) (i : Nat) : -u ≤ exA l u c s i ∧ exA l u c s i ≤ 1000 - u := by
 have := badL_bd v s i
 have e : exA l u c s i = badL (mtl l i) s - u := by simp [exA, spr]
 omega
theorem exC_rg {l : List Met} (v : VldM l) (u c : Int) (s : Bool) (i : Nat) : c - 1000 ≤ exC l u c s i ∧ exC l u c s i ≤ c := by
 have := goodC_bd v s i
 have e : exC l u c s i = c - goodC (mtl l i) s := by simp [exC, spr]
 omega
theorem edg_le {l : List Met} (v : VldM l) {u c : Int} (hu : 0 ≤ u ∧ u ≤ 1000) (hc : 0 ≤ c ∧ c ≤ 1000) {s : Bool} {x : List Int} (h : x ∈ edg l u c s) (i : Nat) : nth x i ≤ 1000000 := by
 obtain ⟨ok, _, hF⟩ := edg_ok v hu hc h
 have hA := exA_rg v u c s
 have hC := exC_rg v u c s
 have hl := ok.len
 rcases hF with ⟨q, hq, rfl⟩ | ⟨b, a, hab, hb, rfl | rfl⟩ | ⟨d, b, a, hab, hbd, hd, rfl⟩
 ·refine putL_le (B := 1000000) v.n1 hl (by decide) (fun k hk => ?_) i
  obtain rfl : k = 0 := by simpa using hk
  decide
 ·refine putL_le (B := 1000000) v.n1 hl (by decide) (two_cases ?_ ?_) i
  ·have := hA a; exact absI_le (by show exA l u c s a ≤ _; omega) (by show - exA l u c s a ≤ _; omega)
  ·have := hA b; exact absI_le (by show - exA l u c s b ≤ _; omega) (by show - - exA l u c s b ≤ _; omega)
 ·refine putL_le (B := 1000000) v.n1 hl (by decide) (two_cases ?_ ?_) i
  ·have := hC a; exact absI_le (by show exC l u c s a ≤ _; omega) (by show - exC l u c s a ≤ _; omega)
  ·have := hC b; exact absI_le (by show - exC l u c s b ≤ _; omega) (by show - - exC l u c s b ≤ _; omega)
 ·have cr : ∀ p q, absI (exA l u c s p * exC l u c s q - exC l u c s p * exA l u c s q) ≤ 1000000 := fun p q => by
   have h1 := cross_le hu hc (hA p) (hA q) (hC p) (hC q)
   have h2 := cross_le hu hc (hA q) (hA p) (hC q) (hC p)
   refine absI_le h1 ?_
   rw [show -(exA l u c s p * exC l u c s q - exC l u c s p * exA l u c s q) = exA l u c s q * exC l u c s p - exC l u c s q * exA l u c s p by grind]
   exact h2
  exact putL_le (B := 1000000) v.n1 hl (by decide) (three_cases (cr b a) (cr a d) (cr d b)) i
theorem edg_vld {l : List Met} (v : VldM l) {u c : Int} (hu : 0 ≤ u ∧ u ≤ 1000) (hc : 0 ≤ c ∧ c ≤ 1000) {s : Bool} {x : List Int} (h : x ∈ edg l u c s) : VldX x l.length :=
 let ok := (edg_ok v hu hc h).1
 ⟨ok.len, fun i => (ok.prt i).1, edg_le v hu hc h, ok.pos⟩
theorem lst_zero (l : List Met) (u c : Int) (s : Bool) (h : ¬ cheE l u c s = 0) : lstN l u c s = 0 ∧ lstD l u c s = 0 := by
 unfold lstN lstD
 rw [if_neg h, if_neg h]
 exact ⟨rfl, rfl⟩
theorem chp_vld {l : List Met} {u c : Int} (hB : chkB l u c = 0) {s : Bool} (h : cheE l u c s = 0) : VldX (chpL l u c s) l.length ∧ psum (chpL l u c s) ≤ 6000000 := by
 obtain ⟨v, hu, hc⟩ := chkB_ok hB
 have vx := edg_vld v hu hc (chp_gx hB h).2
 exact ⟨vx, psum_le v.n6 vx.len vx.le vx.nn⟩
theorem lst_ok {l : List Met} {u c : Int} (hB : chkB l u c = 0) (s : Bool) (h : cheE l u c s = 0) : OkS (lstN l u c s) (lstD l u c s) := by
 obtain ⟨v, hu, hc⟩ := chkB_ok hB
 obtain ⟨vx, hp⟩ := chp_vld hB h
 unfold lstN lstD
 rw [if_pos h, if_pos h]
 exact cost_small v vx hp
theorem gx_of {l : List Met} {u c : Int} {s : Bool} {x : List Int} (vx : VldX x l.length) (h : isG l u c s x = true) : Gx l u c s x := ⟨vx.len, vx.nn, vx.ps, h⟩
theorem des_of {l : List Met} {u c : Int} (hB : chkB l u c = 0) {s : Bool} {x : List Int} (vx : VldX x l.length) : desE l u c s x = if isG l u c s x = true then 0 else 17 := by
 unfold desE; rw [if_neg (fun h => h hB), if_neg (by rw [mixE_ok.2 vx]; decide)]
theorem gx_des {l : List Met} {u c : Int} (hB : chkB l u c = 0) {s : Bool} {x : List Int} (vx : VldX x l.length) : desE l u c s x = 0 ↔ Gx l u c s x := by
 rw [des_of hB vx]
 constructor
 ·intro h
  by_cases g : isG l u c s x = true
  ·exact gx_of vx g
  ·rw [if_neg g] at h; cases h
 ·intro g; rw [if_pos g.gd]
theorem des_two {l : List Met} {u c : Int} (hB : chkB l u c = 0) (s : Bool) {x : List Int} (vx : VldX x l.length) : desE l u c s x = 0 ∨ desE l u c s x = 17 := by
 rw [des_of hB vx]; split
 ·exact .inl rfl
 ·exact .inr rfl
theorem lst_mono {l l' : List Met} {u c u' c' : Int} {s s' : Bool} (hB : chkB l u c = 0) (hB' : chkB l' u' c' = 0)
 (H : ∀ x, Gx l u c s x → ∃ y, Gx l' u' c' s' y ∧ costN l' y l'.length * psum x ≤ costN l x l.length * psum y) (h : cheE l u c s = 0) :
 cheE l' u' c' s' = 0 ∧ lessB (lstN l u c s) (lstD l u c s) (lstN l' u' c' s') (lstD l' u' c' s') = false := by
 have g := (chp_gx hB h).1
 obtain ⟨y, gy, hy⟩ := H _ g
 have h' := (gx_che hB' s').2 ⟨y, gy⟩
 refine ⟨h', ?_⟩
 have g' := (chp_gx hB' h').1
 have hle := chp_le hB' h' gy
 unfold lstN lstD
 rw [if_pos h, if_pos h, if_pos h', if_pos h']
 unfold csN csD
 rw [rat_lt g.ps g'.ps, decide_eq_false_iff_not]
 have := ratio_trans gy.ps g'.ps g.ps hle hy
 omega
def mtV (m : Met) (r : Nat) : Value := .int .i64 (if r = 0 then m.p else if r = 1 then m.ll else if r = 2 then m.lh else if r = 3 then m.cl else m.ch)
theorem elemMt : ElemG Try.prog 68 5 40 := elemG_mk (by kernel_rfl)
theorem el5 {w : World} {b : Nat} {m : Met} (h0 : w.cell? ⟨b, 0, none⟩ = some (.int .i64 m.p)) (h1 : w.cell? ⟨b, 1, none⟩ = some (.int .i64 m.ll)) (h2 : w.cell? ⟨b, 2, none⟩ = some (.int .i64 m.lh)) (h3 : w.cell? ⟨b, 3, none⟩ = some (.int .i64 m.cl)) (h4 : w.cell? ⟨b, 4, none⟩ = some (.int .i64 m.ch)) :
 ∀ i, i < 1 → ∀ r, r < 5 → w.cell? ⟨b, 0 + i * 5 + r, none⟩ = some (mtV m r) := by
 intro i hi r hr
 have e : i = 0 := by omega
 subst e
 match r, hr with
 | 0, _ => simpa [mtV] using h0
 | 1, _ => simpa [mtV] using h1
 | 2, _ => simpa [mtV] using h2
 | 3, _ => simpa [mtV] using h3
 | 4, _ => simpa [mtV] using h4
theorem mts_els {w : World} {a : Option Addr} {f : Nat → Met} {n : Nat} (h : Els w a 5 (fun i r => mtV (f i) r) n) {l : List Met} (hl : l.length = n) (hf : ∀ i, i < n → mtl l i = f i) : Mts w a l := by
 intro i hi
 obtain ⟨b, off, ha, hc⟩ := h i (by omega)
 refine ⟨b, off, ha, ?_⟩
 rw [hf i (by omega)]
 exact ⟨hc 0 (by omega), hc 1 (by omega), hc 2 (by omega), hc 3 (by omega), hc 4 (by omega)⟩
theorem mts_own {w : World} {base : Nat} {e : TypeId} {v : Value} {f : Nat → Met} {n : Nat} (h : OwnG w base e 5 v (fun i r => mtV (f i) r) n) {l : List Met} (hl : l.length = n) (hf : ∀ i, i < n → mtl l i = f i) : ∃ a cap, v = .slice a n cap ∧ Mts w a l := by
 obtain ⟨a, cap, hv, _, he⟩ := OwnG.els h
 exact ⟨a, cap, hv, mts_els he hl hf⟩
def mkM (n : Nat) (f : Nat → Met) : List Met := (List.range n).map f
theorem mkM_len (n : Nat) (f : Nat → Met) : (mkM n f).length = n := by simp [mkM]
theorem mkM_at {n : Nat} (f : Nat → Met) {i : Nat} (h : i < n) : mtl (mkM n f) i = f i := by simp [mtl, mkM, h, List.getD_eq_getElem?_getD]
def knM (m : Met) (x : Int) : Met := ⟨m.p, m.ll + x % (m.lh - m.ll + 1), m.ll + x % (m.lh - m.ll + 1), m.cl + x / 7 % (m.ch - m.cl + 1), m.cl + x / 7 % (m.ch - m.cl + 1)⟩
def knL (l : List Met) (p : List Int) : List Met := mkM l.length fun i => knM (mtl l i) (plN p i)
theorem knL_len (l : List Met) (p : List Int) : (knL l p).length = l.length := mkM_len _ _
theorem knM_in {m : Met} (hl : 0 ≤ m.ll ∧ m.ll ≤ m.lh ∧ m.lh ≤ 1000) (hc : 0 ≤ m.cl ∧ m.cl ≤ m.ch ∧ m.ch ≤ 1000) (x : Int) :
 (m.ll ≤ (knM m x).ll ∧ (knM m x).ll ≤ m.lh) ∧ (m.cl ≤ (knM m x).cl ∧ (knM m x).cl ≤ m.ch) ∧ (knM m x).lh = (knM m x).ll ∧ (knM m x).ch = (knM m x).cl ∧ (knM m x).p = m.p := by
 have h1 := Int.emod_nonneg x (show m.lh - m.ll + 1 ≠ 0 by omega)
 have h2 := Int.emod_lt_of_pos x (show 0 < m.lh - m.ll + 1 by omega)
 have h3 := Int.emod_nonneg (x / 7) (show m.ch - m.cl + 1 ≠ 0 by omega)
 have h4 := Int.emod_lt_of_pos (x / 7) (show 0 < m.ch - m.cl + 1 by omega)
 unfold knM
 refine ⟨⟨?_, ?_⟩, ⟨?_, ?_⟩, rfl, rfl, rfl⟩
 ·show m.ll ≤ m.ll + x % (m.lh - m.ll + 1); omega
 ·show m.ll + x % (m.lh - m.ll + 1) ≤ m.lh; omega
 ·show m.cl ≤ m.cl + x / 7 % (m.ch - m.cl + 1); omega
 ·show m.cl + x / 7 % (m.ch - m.cl + 1) ≤ m.ch; omega
theorem mk_vld {n : Nat} {f : Nat → Met} (n1 : 1 ≤ n) (n6 : n ≤ 6) (hp : ∀ i, i < n → 0 ≤ (f i).p ∧ (f i).p ≤ 1000) (hl : ∀ i, i < n → 0 ≤ (f i).ll ∧ (f i).ll ≤ (f i).lh ∧ (f i).lh ≤ 1000) (hc : ∀ i, i < n → 0 ≤ (f i).cl ∧ (f i).cl ≤ (f i).ch ∧ (f i).ch ≤ 1000) : VldM (mkM n f) := by
 have z : ∀ i, ¬ i < n → mtl (mkM n f) i = ⟨0, 0, 0, 0, 0⟩ := fun i h => mtl_ge (by rw [mkM_len]; omega)
 refine ⟨by rw [mkM_len]; exact n1, by rw [mkM_len]; exact n6, fun i => ?_, fun i => ?_, fun i => ?_⟩
 ·by_cases h : i < n
  ·rw [mkM_at f h]; exact hp i h
  ·rw [z i h]; decide
 ·by_cases h : i < n
  ·rw [mkM_at f h]; exact hl i h
  ·rw [z i h]; decide
 ·by_cases h : i < n
  ·rw [mkM_at f h]; exact hc i h
  ·rw [z i h]; decide
theorem knL_at {l : List Met} (p : List Int) {i : Nat} (h : i < l.length) : mtl (knL l p) i = knM (mtl l i) (plN p i) := mkM_at _ h
theorem knL_vld {l : List Met} (v : VldM l) (p : List Int) : VldM (knL l p) := by
 have q := fun i => knM_in (v.le i) (v.co i) (plN p i)
 refine mk_vld v.n1 v.n6 (fun i _ => ?_) (fun i _ => ?_) (fun i _ => ?_)
 ·rw [(q i).2.2.2.2]; exact v.pr i
 ·have := q i; have := v.le i; omega
 ·have := q i; have := v.co i; omega
theorem vld_chk {l : List Met} (v : VldM l) {u c : Int} (hu : 0 ≤ u ∧ u ≤ 1000) (hc : 0 ≤ c ∧ c ≤ 1000) : chkB l u c = 0 := by
 unfold chkB
 rw [if_pos (chkM_ok.2 v)]
 unfold chkU
 rw [inR_iff.2 hu, inR_iff.2 hc]
 rfl
theorem vld_fit {l : List Met} (v : VldM l) : FitM l := fun i => by
 have a := v.pr i; have b := v.le i; have c := v.co i
 exact ⟨⟨by omega, by omega⟩, ⟨by omega, by omega⟩, ⟨by omega, by omega⟩, ⟨by omega, by omega⟩, ⟨by omega, by omega⟩⟩
theorem knL_bad {l : List Met} (v : VldM l) (r : List Int) {i : Nat} (hi : i < l.length) (s : Bool) :
 badL (mtl (knL l r) i) s ≤ badL (mtl l i) true ∧ badL (mtl l i) false ≤ badL (mtl (knL l r) i) s ∧ goodC (mtl l i) true ≤ goodC (mtl (knL l r) i) s ∧ goodC (mtl (knL l r) i) s ≤ goodC (mtl l i) false := by
 obtain ⟨a, b, c, d, e⟩ := knM_in (v.le i) (v.co i) (plN r i)
 rw [knL_at r hi]
 unfold badL goodC
 cases s
 ·simp only [Bool.false_eq_true, if_false, if_true]; omega
 ·simp only [Bool.false_eq_true, if_false, if_true]; omega
theorem isG_mono {l l' : List Met} {u c u' c' : Int} {s s' : Bool} {x : List Int} (hn : l'.length = l.length) (hl : x.length = l.length) (nn : ∀ i, 0 ≤ nth x i) (hu : u ≤ u') (hc : c' ≤ c)
 (h1 : ∀ i, i < l.length → badL (mtl l' i) s' ≤ badL (mtl l i) s) (h2 : ∀ i, i < l.length → goodC (mtl l i) s ≤ goodC (mtl l' i) s') (h : isG l u c s x = true) : isG l' u' c' s' x = true := by
 unfold isG at h ⊢
 rw [Bool.and_eq_true, decide_eq_true_eq, decide_eq_true_eq] at h ⊢
 have p0 := psum_nn nn
 have a1 : ledN l' s' x l'.length ≤ ledN l s x l.length := by
  unfold ledN; rw [hn]; exact sm_le fun i hi => Int.mul_le_mul_of_nonneg_left (h1 i hi) (nn i)
 have a2 : copN l s x l.length ≤ copN l' s' x l'.length := by
  unfold copN; rw [hn]; exact sm_le fun i hi => Int.mul_le_mul_of_nonneg_left (h2 i hi) (nn i)
 have b1 := Int.mul_le_mul_of_nonneg_right hu p0
 have b2 := Int.mul_le_mul_of_nonneg_right hc p0
 omega
theorem knL_cost (l : List Met) (r x : List Int) : costN (knL l r) x (knL l r).length = costN l x l.length := by
 unfold costN; rw [knL_len]
 exact sm_congr fun i hi => by rw [knL_at r hi]; rfl
theorem gx_kn {l : List Met} (v : VldM l) {u c : Int} (r : List Int) (s : Bool) {x : List Int} (g : Gx l u c true x) : Gx (knL l r) u c s x :=
 ⟨by rw [knL_len]; exact g.len, g.nn, g.ps, isG_mono (knL_len l r) g.len g.nn (Int.le_refl _) (Int.le_refl _) (fun i hi => (knL_bad v r hi s).1) (fun i hi => (knL_bad v r hi s).2.2.1) g.gd⟩
theorem kn_gx {l : List Met} (v : VldM l) {u c : Int} (r : List Int) (s : Bool) {x : List Int} (g : Gx (knL l r) u c s x) : Gx l u c false x := by
 have hl : x.length = l.length := by rw [g.len, knL_len]
 exact ⟨hl, g.nn, g.ps, isG_mono (l := knL l r) (by rw [knL_len]) g.len g.nn (Int.le_refl _) (Int.le_refl _) (fun i hi => (knL_bad v r (by rw [knL_len] at hi; exact hi) s).2.1) (fun i hi => (knL_bad v r (by rw [knL_len] at hi; exact hi) s).2.2.2) g.gd⟩
theorem kn_same {l : List Met} (v : VldM l) {u c : Int} (r : List Int) (x : List Int) (s s' : Bool) : isG (knL l r) u c s x = isG (knL l r) u c s' x := by
 have hb : ∀ i, i < (knL l r).length → badL (mtl (knL l r) i) s = badL (mtl (knL l r) i) s' ∧ goodC (mtl (knL l r) i) s = goodC (mtl (knL l r) i) s' := fun i hi => by
  rw [knL_len] at hi
  obtain ⟨a, b, c, d, e⟩ := knM_in (v.le i) (v.co i) (plN r i)
  rw [knL_at r hi]
  unfold badL goodC
  cases s <;> cases s'
  ·exact ⟨rfl, rfl⟩
  ·exact ⟨c.symm, d⟩
  ·exact ⟨c, d.symm⟩
  ·exact ⟨rfl, rfl⟩
 have e1 : ledN (knL l r) s x (knL l r).length = ledN (knL l r) s' x (knL l r).length := by unfold ledN; exact sm_congr fun i hi => by rw [(hb i hi).1]
 have e2 : copN (knL l r) s x (knL l r).length = copN (knL l r) s' x (knL l r).length := by unfold copN; exact sm_congr fun i hi => by rw [(hb i hi).2]
 unfold isG
 rw [e1, e2]
theorem des_known {l : List Met} {u c : Int} (hB : chkB l u c = 0) (r : List Int) {x : List Int} (vx : VldX x l.length) :
 (desE l u c true x = 0 → desE l u c false x = 0 ∧ desE (knL l r) u c true x = 0) ∧ (desE (knL l r) u c true x = 0 → desE l u c false x = 0) ∧ desE (knL l r) u c false x = desE (knL l r) u c true x := by
 obtain ⟨v, hu, hc⟩ := chkB_ok hB
 have vk := knL_vld v r
 have hK := vld_chk vk hu hc
 have vx' : VldX x (knL l r).length := by rw [knL_len]; exact vx
 refine ⟨fun h => ?_, fun h => ?_, ?_⟩
 ·have g := (gx_des hB vx).1 h
  have g2 := gx_kn v r true g
  exact ⟨(gx_des hB vx).2 (kn_gx v r true g2), (gx_des hK vx').2 g2⟩
 ·exact (gx_des hB vx).2 (kn_gx v r true ((gx_des hK vx').1 h))
 ·rw [des_of hK vx', des_of hK vx', kn_same v r x false true]
theorem lst_known {l : List Met} {u c : Int} (hB : chkB l u c = 0) (r : List Int) :
 (cheE l u c true = 0 → cheE (knL l r) u c true = 0 ∧ lessB (lstN l u c true) (lstD l u c true) (lstN (knL l r) u c true) (lstD (knL l r) u c true) = false) ∧
 (cheE (knL l r) u c true = 0 → cheE l u c false = 0 ∧ lessB (lstN (knL l r) u c true) (lstD (knL l r) u c true) (lstN l u c false) (lstD l u c false) = false) := by
 obtain ⟨v, hu, hc⟩ := chkB_ok hB
 have hK := vld_chk (knL_vld v r) hu hc
 refine ⟨fun h => lst_mono hB hK (fun x g => ⟨x, gx_kn v r true g, ?_⟩) h, fun h => lst_mono hK hB (fun x g => ⟨x, kn_gx v r true g, ?_⟩) h⟩
 ·rw [knL_cost]; exact Int.le_refl _
 ·rw [knL_cost]; exact Int.le_refl _
set_option maxHeartbeats 4000000 in
theorem leastL_any (l : List Met) (q : FitM l) {u c : Int} (hB : chkB l u c = 0) (a : Option Addr) (cap : Nat) (iu : I64 u) (ic : I64 c) (s : Bool) (w : World) (hM : Mts w a l) :
 Calls Try.prog 44 #[.slice a l.length cap, (.agg #[.int .i64 (u), .int .i64 (c)]), .bool s] w fun e w' => e = .returned (.tuple #[(.agg #[.int .i64 (lstN l u c s), .int .i64 (lstD l u c s)]), .bool (decide (cheE l u c s = 0)), .bool true]) ∧ Ext w w' := by
 obtain ⟨v, hu, hc⟩ := chkB_ok hB
 have n6 := v.n6
 have hle := hid (fun W hW => least_any l q (by omega) a cap u c iu ic s W hW)
 have heq : ∀ (p q : Int) w, (Op.equalIn 10000 29 (.agg #[.int .i64 p, .int .i64 q]) (.agg #[.int .i64 p, .int .i64 q])).run Try.prog w = .ok true w := fun p q w => by rw [run_eqRatio]; simp
 have hz := lst_zero l u c s
 have hok := lst_ok hB s
 replace hM := hid hM
 obtain ⟨N, hN⟩ : ∃ z, lstN l u c s = z := ⟨_, rfl⟩
 obtain ⟨D, hD⟩ : ∃ z, lstD l u c s = z := ⟨_, rfl⟩
 rw [hN, hD] at hle hz hok ⊢
 rcases che_two hB s with g | g
 ·rw [g] at hle ⊢
  have k := hok g
  have hsm := hid (fun W => smallL_any N D k W)
  clear q v hu hc hB n6 hN hD hz hok k g
  go_enter Try.func44, Try.ntmps44
  go_wp2_with fail
  refine name_c (fun w0 hw0 => ?_)
  have X := hid (show Ext w w0 by rw [hw0]; exact exE)
  have rb := hid (show Bx2 w0 (w.heap.size + 1) 0 0 from ⟨by rw [hw0]; simp [go_sem], by rw [hw0]; simp [go_sem], by rw [hw0]; simp [go_sem], by rw [hw0]; simp [go_sem]⟩)
  clear hw0
  obtain ⟨B, hB⟩ : ∃ B, w.heap.size + 1 = B := ⟨_, rfl⟩
  rw [hB] at rb ⊢
  have hBB := hid (show w.heap.size ≤ B by omega)
  clear hB
  refine (hle.out _ (hM.out.ext X.out)).mono ?_; rintro e u1 ⟨rfl, hE⟩
  replace X := hid (X.out.trans hE)
  replace rb := hid (rb.out.ext hE)
  clear hE hle
  have lB := rb.out.lt
  go_upto_region 4 with (fail)
  refine name_wp (fun v1 hv => ?_)
  have x1 : Ext u1 v1 := by rw [hv]; exact exE
  have b0 : v1.cell? ⟨u1.heap.size, 0, none⟩ = some (.int .i64 N) := by rw [hv]; simp [go_sem]
  have b1 : v1.cell? ⟨u1.heap.size, 1, none⟩ = some (.int .i64 D) := by rw [hv]; simp [go_sem]
  have rb1 := rb.out.ext x1
  have xw := X.out.trans x1
  have hBl := rb.out.lt
  clear hv X x1 rb lB
  obtain ⟨C, hC⟩ : ∃ B, u1.heap.size = B := ⟨_, rfl⟩
  rw [hC] at b0 b1 hBl ⊢
  clear hC
  have hBn := hBB.out
  refine wp_mono (Q := calmS _) ?_ calmS_of
  refine wp_region_held_drew (S := fun w' => Ext w w' ∧ w'.cell? ⟨C, 0, none⟩ = some (.int .i64 N) ∧ w'.cell? ⟨C, 1, none⟩ = some (.int .i64 D)) (by kernel_rfl) ⟨xw.trans exE, (show Ext v1 _ from exE).cell b0, (show Ext v1 _ from exE).cell b1⟩ fun hHeld => ?_
  (refine tkA (i := 0) (v := ?_) rfl (fun _ _ _ h => h) (Or.inl ⟨by rfl, ?yl⟩) (by assumption) ?_; (case yl => ((intro w hSw; (try dsimp only at hSw); obtain ⟨_, kk0, kk1⟩ := hSw; go_simp); with_reducible rfl)); (try simp only [sxA, sxB, sxC, Act.put, sxD, sxE, sxF]))
  (refine tkA (i := 1) (v := ?_) rfl (fun _ _ _ h => h) (Or.inl ⟨by rfl, ?yl⟩) (by assumption) ?_; (case yl => ((intro w hSw; (try dsimp only at hSw); obtain ⟨_, kk0, kk1⟩ := hSw; go_simp); with_reducible rfl)); (try simp only [sxA, sxB, sxC, Act.put, sxD, sxE, sxF]))
  (refine tkA (i := 2) (v := ?_) rfl (fun _ _ _ h => h) (Or.inl ⟨by rfl, ?yl⟩) (by assumption) ?_; (case yl => ((intro w hSw; (try dsimp only at hSw); obtain ⟨_, kk0, kk1⟩ := hSw; go_simp); with_reducible rfl)); (try simp only [sxA, sxB, sxC, Act.put, sxD, sxE, sxF]))
  (refine tkA (i := 3) (v := ?_) rfl (fun _ _ _ h => h) (Or.inl ⟨by rfl, ?yl⟩) (by assumption) ?_; (case yl => ((intro w hSw; (try dsimp only at hSw); obtain ⟨_, kk0, kk1⟩ := hSw; go_simp); with_reducible rfl)); (try simp only [sxA, sxB, sxC, Act.put, sxD, sxE, sxF]))
  (refine tkA (i := 4) (v := ?_) rfl (fun _ _ _ h => h) (Or.inl ⟨by rfl, ?yl⟩) (by assumption) ?_; (case yl => ((intro w hSw; (try dsimp only at hSw); obtain ⟨_, kk0, kk1⟩ := hSw; go_simp); with_reducible rfl)); (try simp only [sxA, sxB, sxC, Act.put, sxD, sxE, sxF]))
  (refine wpAnyH_ready (rs := [5]) (by kernel_rfl) (by simp) ?_; refine AllReadyH.cons (o := _) rfl (fun K hK => ?_) AllReadyH.nil)
  go_simp
  refine (hsm.out _).mono ?_; rintro e w5 ⟨rfl, hE5⟩
  have x5 : Ext v1 w5 := exE
  refine hK.out _ _ ⟨xw.trans x5, x5.cell b0, x5.cell b1⟩ (fun hHeld => ?_)
  clear hK K
  (try simp only [sxA, sxB, sxC, Act.put, sxD, sxE, sxF])
  (refine tkA (i := 6) (v := ?_) rfl (fun _ _ _ h => h) (Or.inl ⟨by rfl, ?yl⟩) (by assumption) ?_; (case yl => ((intro w hSw; (try dsimp only at hSw); obtain ⟨_, kk0, kk1⟩ := hSw; go_simp); with_reducible rfl)); (try simp only [sxA, sxB, sxC, Act.put, sxD, sxE, sxF]))
  (refine wpAnyH_ready (rs := [7]) (by kernel_rfl) (by simp) ?_; refine AllReadyH.cons (o := _) rfl (fun K hK => ?_) AllReadyH.nil)
  have A6 := rb1.ext x5
  obtain ⟨c0, c1, g0, g1⟩ := A6
  have y0 := cell_lt c0
  dsimp only at y0
  go_simp
  obtain ⟨w7, hw7⟩ : ∃ w7, w7 = (w5.setCell ⟨B, 0, none⟩ (.int .i64 N)).setCell ⟨B, 1, none⟩ (.int .i64 D) := ⟨_, rfl⟩
  have X5 := xw.trans x5
  have X7 : Ext w w7 := by rw [hw7]; exact exE
  have b07 : w7.cell? ⟨C, 0, none⟩ = some (.int .i64 N) := by rw [hw7]; exact box_put (by omega) (box_put (by omega) (x5.cell b0))
  have b17 : w7.cell? ⟨C, 1, none⟩ = some (.int .i64 D) := by rw [hw7]; exact box_put (by omega) (box_put (by omega) (x5.cell b1))
  have A7 : Bx2 w7 B N D := by rw [hw7]; exact Bx2.store ⟨c0, c1, g0, g1⟩ _ _
  rw [← hw7]
  clear hw7
  refine hK.out _ _ ⟨X7, b07, b17⟩ (fun hHeld => ?_)
  clear hK K
  clear c0 c1 g0 g1 y0 x5 hE5
  (try simp only [sxA, sxB, sxC, Act.put, sxD, sxE, sxF])
  (refine tkA (i := 8) (v := ?_) rfl (fun _ _ _ h => h) (Or.inl ⟨by rfl, ?yl⟩) (by assumption) ?_; (case yl => ((intro w hSw; (try dsimp only at hSw); obtain ⟨_, kk0, kk1⟩ := hSw; go_simp); with_reducible rfl)); (try simp only [sxA, sxB, sxC, Act.put, sxD, sxE, sxF]))
  (refine tkA (i := 9) (v := ?_) rfl (fun _ _ _ h => h) (Or.inl ⟨by rfl, ?yl⟩) (by assumption) ?_; (case yl => ((intro w hSw; (try dsimp only at hSw); obtain ⟨_, kk0, kk1⟩ := hSw; go_simp); with_reducible rfl)); (try simp only [sxA, sxB, sxC, Act.put, sxD, sxE, sxF]))
  refine wpAnyH_done (by kernel_rfl) ?_ _
  obtain ⟨c0, c1, _, _⟩ := A7
  simp only [calmS]
  go_wp2_with fail
  refine bodyPost_ret (v := .tuple #[(.agg #[.int .i64 (N), .int .i64 (D)]), .bool true, .bool true]) ?_ rfl ⟨rfl, X7⟩
  simp [results, Try.results44, go_sem, *]
 ·have hz := hz (by rw [g]; decide)
  obtain ⟨rfl, rfl⟩ := hz
  rw [g] at hle ⊢
  clear q v hu hc hB n6 hN hD hok g
  go_enter Try.func44, Try.ntmps44
  go_wp2_with fail
  refine name_c (fun w0 hw0 => ?_)
  have X := hid (show Ext w w0 by rw [hw0]; exact exE)
  have rb := hid (show Bx2 w0 (w.heap.size + 1) 0 0 from ⟨by rw [hw0]; simp [go_sem], by rw [hw0]; simp [go_sem], by rw [hw0]; simp [go_sem], by rw [hw0]; simp [go_sem]⟩)
  clear hw0
  obtain ⟨B, hB⟩ : ∃ B, w.heap.size + 1 = B := ⟨_, rfl⟩
  rw [hB] at rb ⊢
  have hBB := hid (show w.heap.size ≤ B by omega)
  clear hB
  refine (hle.out _ (hM.out.ext X.out)).mono ?_; rintro e u1 ⟨rfl, hE⟩
  replace X := hid (X.out.trans hE)
  replace rb := hid (rb.out.ext hE)
  clear hE hle
  have lB := rb.out.lt
  go_upto_region 3 with (fail)
  refine name_wp (fun v1 hv => ?_)
  have x1 : Ext u1 v1 := by rw [hv]; exact exE
  have b0 : v1.cell? ⟨u1.heap.size, 0, none⟩ = some (.int .i64 0) := by rw [hv]; simp [go_sem]
  have b1 : v1.cell? ⟨u1.heap.size, 1, none⟩ = some (.int .i64 0) := by rw [hv]; simp [go_sem]
  have rb1 := rb.out.ext x1
  have xw := X.out.trans x1
  have hBl := rb.out.lt
  clear hv X x1 rb lB
  obtain ⟨C, hC⟩ : ∃ B, u1.heap.size = B := ⟨_, rfl⟩
  rw [hC] at b0 b1 hBl ⊢
  clear hC
  have hBn := hBB.out
  refine wp_mono (Q := calmS _) ?_ calmS_of
  refine wp_region_held_drew (S := fun w' => Ext w w' ∧ w'.cell? ⟨C, 0, none⟩ = some (.int .i64 0) ∧ w'.cell? ⟨C, 1, none⟩ = some (.int .i64 0)) (by kernel_rfl) ⟨xw.trans exE, (show Ext v1 _ from exE).cell b0, (show Ext v1 _ from exE).cell b1⟩ fun hHeld => ?_
  (refine tkA (i := 0) (v := ?_) rfl (fun _ _ _ h => h) (Or.inl ⟨by rfl, ?yl⟩) (by assumption) ?_; (case yl => ((intro w hSw; (try dsimp only at hSw); obtain ⟨_, kk0, kk1⟩ := hSw; go_simp); with_reducible rfl)); (try simp only [sxA, sxB, sxC, Act.put, sxD, sxE, sxF]))
  (refine tkA (i := 1) (v := ?_) rfl (fun _ _ _ h => h) (Or.inl ⟨by rfl, ?yl⟩) (by assumption) ?_; (case yl => ((intro w hSw; (try dsimp only at hSw); obtain ⟨_, kk0, kk1⟩ := hSw; go_simp); with_reducible rfl)); (try simp only [sxA, sxB, sxC, Act.put, sxD, sxE, sxF]))
  (refine tkA (i := 2) (v := ?_) rfl (fun _ _ _ h => h) (Or.inl ⟨by rfl, ?yl⟩) (by assumption) ?_; (case yl => ((intro w hSw; (try dsimp only at hSw); obtain ⟨_, kk0, kk1⟩ := hSw; go_simp); with_reducible rfl)); (try simp only [sxA, sxB, sxC, Act.put, sxD, sxE, sxF]))
  (refine tkA (i := 3) (v := ?_) rfl (fun _ _ _ h => h) (Or.inl ⟨by rfl, ?yl⟩) (by assumption) ?_; (case yl => ((intro w hSw; (try dsimp only at hSw); obtain ⟨_, kk0, kk1⟩ := hSw; go_simp); with_reducible rfl)); (try simp only [sxA, sxB, sxC, Act.put, sxD, sxE, sxF]))
  (refine wpAnyH_ready (rs := [4]) (by kernel_rfl) (by simp) ?_; refine AllReadyH.cons (o := _) rfl (fun K hK => ?_) AllReadyH.nil)
  obtain ⟨c0, c1, g0, g1⟩ := rb1
  have y0 := cell_lt c0
  dsimp only at y0
  go_simp
  obtain ⟨w6, hw6⟩ : ∃ w6, w6 = (v1.setCell ⟨B, 0, none⟩ (.int .i64 0)).setCell ⟨B, 1, none⟩ (.int .i64 0) := ⟨_, rfl⟩
  have X6 : Ext w w6 := by rw [hw6]; have := xw; exact exE
  have b06 : w6.cell? ⟨C, 0, none⟩ = some (.int .i64 0) := by rw [hw6]; exact box_put (by omega) (box_put (by omega) b0)
  have b16 : w6.cell? ⟨C, 1, none⟩ = some (.int .i64 0) := by rw [hw6]; exact box_put (by omega) (box_put (by omega) b1)
  have A6 : Bx2 w6 B 0 0 := by rw [hw6]; exact Bx2.store ⟨c0, c1, g0, g1⟩ _ _
  rw [← hw6]
  clear hw6
  obtain ⟨w7, hw7⟩ : ∃ w7, w7 = w6.drew := ⟨_, rfl⟩
  have x67 : Ext w6 w7 := by rw [hw7]; exact exE
  have X7 := X6.trans x67
  have b07 := x67.cell b06
  have b17 := x67.cell b16
  have A7 := A6.ext x67
  clear x67 X6 b06 b16 A6
  rw [← hw7]
  clear hw7
  refine hK.out _ _ ⟨X7, b07, b17⟩ (fun hHeld => ?_)
  clear hK K
  clear c0 c1 g0 g1 y0
  (try simp only [sxA, sxB, sxC, Act.put, sxD, sxE, sxF])
  (refine tkA (i := 5) (v := ?_) rfl (fun _ _ _ h => h) (Or.inl ⟨by rfl, ?yl⟩) (by assumption) ?_; (case yl => ((intro w hSw; (try dsimp only at hSw); obtain ⟨_, kk0, kk1⟩ := hSw; go_simp); with_reducible rfl)); (try simp only [sxA, sxB, sxC, Act.put, sxD, sxE, sxF]))
  (refine tkA (i := 6) (v := ?_) rfl (fun _ _ _ h => h) (Or.inl ⟨by rfl, ?yl⟩) (by assumption) ?_; (case yl => ((intro w hSw; (try dsimp only at hSw); obtain ⟨_, kk0, kk1⟩ := hSw; go_simp); with_reducible rfl)); (try simp only [sxA, sxB, sxC, Act.put, sxD, sxE, sxF]))
  refine wpAnyH_done (by kernel_rfl) ?_ _
  obtain ⟨c0, c1, _, _⟩ := A7
  simp only [calmS]
  go_wp2_with fail
  refine bodyPost_ret (v := .tuple #[(.agg #[.int .i64 (0), .int .i64 (0)]), .bool false, .bool true]) ?_ rfl ⟨rfl, X7⟩
  simp [results, Try.results44, go_sem, *]
set_option maxHeartbeats 40000000 in
theorem stK9 {yA yB yC yD yE yF yG yJ yK yL yM yN yO yP yQ yR yS yT yU yV yW yX yY yZ zA zB zC zD zE zF zG zH zI zJ zK zL zM zN zO zP zQ zR zS zT zU zV zW zX zY zZ uA uB uC uD uE uF uG uH uI uJ uK uL uM uN uO uP uQ uR uS uT : Value} {B : Nat} {p ll lh cl ch x E1 D1 A L Q E2 D2 M C : Int} {w : World} (t0 : w.cell? ⟨B, 0, none⟩ = some (.int .i64 p)) (t1 : w.cell? ⟨B, 1, none⟩ = some (.int .i64 ll)) (t2 : w.cell? ⟨B, 2, none⟩ = some (.int .i64 lh)) (t3 : w.cell? ⟨B, 3, none⟩ = some (.int .i64 cl)) (t4 : w.cell? ⟨B, 4, none⟩ = some (.int .i64 ch)) (a1 : IntKind.i64.wrap (lh - ll) = E1) (a2 : IntKind.i64.wrap (E1 + 1) = D1) (a0 : ¬ D1 = 0) (a3 : x.tmod D1 = A) (r1 : 0 ≤ A ∧ A ≤ 1000) (a5 : IntKind.i64.wrap (ll + A) = L) (c1 : x.tdiv 7 = Q) (r2 : 0 ≤ Q ∧ Q ≤ 65535) (c2 : IntKind.i64.wrap (ch - cl) = E2) (c3 : IntKind.i64.wrap (E2 + 1) = D2) (c0 : ¬ D2 = 0) (c4 : Q.tmod D2 = M) (r3 : 0 ≤ M ∧ M ≤ 1000) (c5 : IntKind.i64.wrap (cl + M) = C) :
 Code.wp Try.prog (rgn Try.f47 9) (fun e a' w' => e = .normal ∧ ∃ (zG' zH' zI' zJ' zK' zL' zM' zN' zO' zP' zQ' zR' zS' zT' zU' zV' zW' zX' zY' zZ' uA' uB' uC' uD' uE' uF' uG' uH' uI' : Value), a' = { tmps := #[yA,yB,yC,yD,yE,yF,yG,.pointer (some ⟨B, 0, none⟩),.int .i64 x,.int .i64 L,.int .i64 C,yL,yM,yN,yO,yP,yQ,yR,yS,yT,yU,yV,yW,yX,yY,yZ,zA,zB,zC,zD,zE,zF,zG',zH',zI',zJ',zK',zL',zM',zN',zO',zP',zQ',zR',zS',zT',zU',zV',zW',zX',zY',zZ',uA',uB',uC',uD',uE',uF',uG',uH',uI',uJ,uK,uL,uM,uN,uO,uP,uQ,uR,uS,uT], defers := [] } ∧ Ext w w') { tmps := #[yA,yB,yC,yD,yE,yF,yG,.pointer (some ⟨B, 0, none⟩),.int .i64 x,yJ,yK,yL,yM,yN,yO,yP,yQ,yR,yS,yT,yU,yV,yW,yX,yY,yZ,zA,zB,zC,zD,zE,zF,zG,zH,zI,zJ,zK,zL,zM,zN,zO,zP,zQ,zR,zS,zT,zU,zV,zW,zX,zY,zZ,uA,uB,uC,uD,uE,uF,uG,uH,uI,uJ,uK,uL,uM,uN,uO,uP,uQ,uR,uS,uT], defers := [] } w := by
 conv => arg 2; whnf
 refine st_intro (fun Q2 hQ2 => ?_)
 replace hQ2 := hid hQ2
 have lT := cell_lt t0
 dsimp only at lT
 obtain ⟨r1a, r1b⟩ := r1; obtain ⟨r2a, r2b⟩ := r2; obtain ⟨r3a, r3b⟩ := r3
 have w1 := Go.IntWalk.i64_in A (by omega); have w2 := Go.IntWalk.i64_in Q (by omega); have w3 := Go.IntWalk.i64_in M (by omega)
 go_quiet (fail)
 go_wp2_with fail
 rw [hQ2.out]
 refine ⟨rfl, _, _, _, _, _, _, _, _, _, _, _, _, _, _, _, _, _, _, _, _, _, _, _, _, _, _, _, _, _, rfl, exE⟩
def RetM (l : List Met) (w : World) (e : Ending) (w' : World) : Prop := ∃ a cap, e = .returned (.slice a l.length cap) ∧ Mts w' a l ∧ Ext w w'
set_option maxHeartbeats 4000000 in
theorem knownL_any (l : List Met) (v : VldM l) (p : List Int) (hp : ∀ i, 0 ≤ nth p i ∧ nth p i ≤ 65535) (hlp : p.length ≤ 9223372036854775807) (a : Option Addr) (cap : Nat) (ap : Option Addr) (cpp : Nat) (w : World) (hM : Mts w a l) (hP : Wrds w ap p) :
 Calls Try.prog 47 #[.slice a l.length cap, .slice ap p.length cpp] w (RetM (knL l p) w) := by
 have n1 := v.n1; have n6 := v.n6
 have hvl := hid (fun i => v.le i); have hvc := hid (fun i => v.co i)
 have hbd := hid (plN_bd hp)
 have hpn : Hid (∀ i, plN p i = if p.length = 0 then 0 else nth p (i % p.length)) := hid fun i => rfl
 have hend : Hid (∀ W r, OwnG W w.heap.size 68 5 r (fun i r => mtV (knM (mtl l i) (plN p i)) r) l.length → ∃ a' c', r = .slice a' l.length c' ∧ Mts W a' (knL l p)) := hid fun W r h => mts_own h (knL_len l p) fun i hi => knL_at p hi
 obtain ⟨b, off, rfl, hbl, hc1⟩ := hM.at (by omega)
 replace hc1 := hid hc1
 have hkl := hid (knL_len l p)
 obtain ⟨F, hF⟩ : ∃ F : Nat → Met, (fun i => knM (mtl l i) (plN p i)) = F := ⟨_, rfl⟩
 have hFi : Hid (∀ i, F i = knM (mtl l i) (plN p i)) := hid fun i => by rw [← hF]
 have hend : Hid (∀ W r, OwnG W w.heap.size 68 5 r (fun i r => mtV (F i) r) l.length → ∃ a' c', r = .slice a' l.length c' ∧ Mts W a' (knL l p)) := hid (by rw [← hF]; exact hend.out)
 clear hF hM
 obtain ⟨m, hm⟩ : ∃ m, p.length = m := ⟨_, rfl⟩
 rw [hm] at hpn hlp ⊢
 have hww : Hid (∀ i, i < m → ∃ b off, ap = some ⟨b, off, none⟩ ∧ w.cell? ⟨b, off + i, none⟩ = some (.int .u16 (nth p i))) := hid (by rw [← hm]; exact hP)
 replace hm := hid hm
 obtain ⟨n, hn⟩ : ∃ n, l.length = n := ⟨_, rfl⟩
 rw [hn] at hc1 hend hkl n1 n6 ⊢
 unfold RetM
 rw [hkl.out]
 replace hn := hid hn
 clear hP hp v
 go_enter Try.func47, Try.ntmps47
 go_wp2_with fail
 go_loopw [5, 6] (fun r i wr => ∃ j : Nat, j ≤ n ∧ i = .int .i64 j ∧ Hid (OwnG wr w.heap.size 68 5 r (fun i r => mtV (F i) r) j) ∧ Hid (Ext w wr)) (fun _ i _ => (n - intOf i).toNat)
 case atStart => exact ⟨0, by omega, rfl, hid (OwnG.nil _ _ _ _ _), hid (Ext.refl _)⟩
 case round =>
  obtain ⟨j, hj, rfl, ho, hx⟩ := hrel
  by_cases hjl : j < n
  ·have hjI : (j : Int) < (n : Int) := by omega
   have hv1 := hvl.out j; have hv2 := hvc.out j; have hb := hbd.out j
   have hk := hid (knM_in hv1 hv2 (plN p j))
   have hFj := hid (hFi.out j)
   have u2 := Go.IntWalk.i64_in ((j : Int) + 1) (by omega)
   have hsz := hx.out.size
   have hidx : Hid (m = 0 ∨ ∃ b2 o2 r : Nat, ap = some ⟨b2, o2, none⟩ ∧ ((j : Int)).tmod (m : Int) = (r : Int) ∧ r < m ∧ w.cell? ⟨b2, o2 + r, none⟩ = some (.int .u16 (plN p j))) := hid (by
    by_cases h0 : m = 0
    ·exact .inl h0
    ·obtain ⟨b2, o2, e, hcc⟩ := hww.out (j % m) (Nat.mod_lt j (by omega))
     refine .inr ⟨b2, o2, j % m, e, by rw [Int.tmod_eq_emod_of_nonneg (by omega)]; rfl, Nat.mod_lt j (by omega), ?_⟩
     rw [hpn.out j, if_neg h0]; exact hcc)
   have hpj := hid (hpn.out j)
   obtain ⟨x, hxe⟩ : ∃ x, plN p j = x := ⟨_, rfl⟩
   rw [hxe] at hb hk hFj hidx hpj
   obtain ⟨q0, q1, q2, q3, q4⟩ := (hc1.out j hjl).ext hx.out
   have hm9 := hid (show mtl l j = mtl l j from rfl)
   obtain ⟨M, hMj⟩ : ∃ M, mtl l j = M := ⟨_, rfl⟩
   rw [hMj] at q0 q1 q2 q3 q4 hk hFj hv1 hv2
   obtain ⟨pr, ll, lh, cl, ch⟩ := M
   dsimp only at q0 q1 q2 q3 q4 hv1 hv2
   have g1 := Int.emod_nonneg x (show lh - ll + 1 ≠ 0 by omega)
   have g2 := Int.emod_lt_of_pos x (show 0 < lh - ll + 1 by omega)
   have g3 := Int.emod_nonneg (x / 7) (show ch - cl + 1 ≠ 0 by omega)
   have g4 := Int.emod_lt_of_pos (x / 7) (show 0 < ch - cl + 1 by omega)
   have hFF : Hid (F j = ⟨pr, ll + x % (lh - ll + 1), ll + x % (lh - ll + 1), cl + x / 7 % (ch - cl + 1), cl + x / 7 % (ch - cl + 1)⟩) := hid hFj.out
   clear hk hFj hm9 hxe hMj
   obtain ⟨A, hA⟩ : ∃ z, x % (lh - ll + 1) = z := ⟨_, rfl⟩
   obtain ⟨Bm, hBm⟩ : ∃ z, x / 7 % (ch - cl + 1) = z := ⟨_, rfl⟩
   have hA2 : Hid (x.tmod (lh - ll + 1) = A) := hid (by rw [Int.tmod_eq_emod_of_nonneg (by omega)]; exact hA)
   have hQ2 : Hid (x.tdiv 7 = x / 7) := hid (Int.tdiv_eq_ediv_of_nonneg (by omega))
   have hB2 : Hid ((x / 7).tmod (ch - cl + 1) = Bm) := hid (by rw [Int.tmod_eq_emod_of_nonneg (by omega)]; exact hBm)
   have hQr := hid (show 0 ≤ x / 7 ∧ x / 7 ≤ 65535 by omega)
   rw [hA] at g1 g2 hFF
   rw [hBm] at g3 g4 hFF
   replace hb := hid hb; replace hv1 := hid hv1; replace hv2 := hid hv2
   have g12 := hid (And.intro g1 g2); have g34 := hid (And.intro g3 g4)
   clear hA hBm g1 g2 g3 g4
   rcases hidx.out with h0 | ⟨b2, o2, r, hap, htm, hr, hcc⟩
   ·subst h0
    have hx0 : x = 0 := by have := hpj.out; simpa using this
    have hmI : ¬ (0 : Int) < ((0 : Nat) : Int) := by omega
    clear hpj hidx
    subst hx0
    go_upto_region 9 with (fail)
    refine name_wp (fun v1 hv => ?_)
    have x1 : Ext wr v1 := by rw [hv]; exact exE
    have b7 := hid (show C5 v1 wr.heap.size pr ll lh cl ch from ⟨by rw [hv]; simp [go_sem], by rw [hv]; simp [go_sem], by rw [hv]; simp [go_sem], by rw [hv]; simp [go_sem], by rw [hv]; simp [go_sem]⟩)
    clear hv
    obtain ⟨B, hB⟩ : ∃ B, wr.heap.size = B := ⟨_, rfl⟩
    rw [hB] at b7 ⊢
    clear hB
    refine wp_mono (stK9 b7.out.1 b7.out.2.1 b7.out.2.2.1 b7.out.2.2.2.1 b7.out.2.2.2.2 (Go.IntWalk.i64_in (lh - ll) (by have := hv1.out; omega)) (Go.IntWalk.i64_in (lh - ll + 1) (by have := hv1.out; omega)) (by have := hv1.out; omega) hA2.out (by have := g12.out; have := hv1.out; omega) (Go.IntWalk.i64_in (ll + A) (by have := g12.out; have := hv1.out; omega)) hQ2.out hQr.out (Go.IntWalk.i64_in (ch - cl) (by have := hv2.out; omega)) (Go.IntWalk.i64_in (ch - cl + 1) (by have := hv2.out; omega)) (by have := hv2.out; omega) hB2.out (by have := g34.out; have := hv2.out; omega) (Go.IntWalk.i64_in (cl + Bm) (by have := g34.out; have := hv2.out; omega))) ?_
    rintro e a' v2 ⟨rfl, zG', zH', zI', zJ', zK', zL', zM', zN', zO', zP', zQ', zR', zS', zT', zU', zV', zW', zX', zY', zZ', uA', uB', uC', uD', uE', uF', uG', uH', uI', rfl, x2⟩
    have x12 := x1.trans x2
    have hx2 := hid (hx.out.trans x12)
    have ho2 := hid (ho.out.ext x12)
    replace b7 := hid (b7.out.ext x2)
    clear x1 x2 x12 q0 q1 q2 q3 q4 hx ho hsz
    obtain ⟨o0, o1, o2_, o3, o4⟩ := b7.out
    have lo := cell_lt o0
    dsimp only at lo
    have hsz := hx2.out.size
    go_wp2_with fail
    refine (metalL_any _ _ _ _ _ _).mono ?_; rintro e v3 ⟨rfl, hE⟩
    have x3 : Ext v2 v3 := exE
    have hx3 := hid (hx2.out.trans x3)
    have ho3 := hid (ho2.out.ext x3)
    clear hE hx2 ho2 o0 o1 o2_ o3 o4 lo hsz b7
    have hsz := hx3.out.size
    go_wp2_with (at_builtin; refine wpList_plain rfl (fun K hK => ?_); refine appG_wp _ _ _ rfl 68 5 40 Try.underlying22 elemMt (by decide) w.heap.size (fun i r => mtV (F i) r) j _ rfl _ 0 1 1 (fun _ r => mtV (F j) r) rfl (ho3.out.ext exE) (by rw [hFF.out]; exact el5 (by simp [go_sem]) (by simp [go_sem]) (by simp [go_sem]) (by simp [go_sem]) (by simp [go_sem])) (by decide) (fun _ _ _ _ => rfl) (by omega) (by decide) (by simp; omega) (fun i r => mtV (F i) r) (fun _ _ _ _ => rfl) (fun i r hi _ => by rw [show i = 0 by omega]; rfl) ?_; intro b8 cp8 w8 own8 g8 at8 hb8 ext8; refine hK _ _ ?_)
    go_roundw
    case rel => exact ⟨j + 1, by omega, by go_num, hid own8, hid (ext8 _ (by have := hx3.out; exact exE) (Nat.le_refl _))⟩
    case measure => simp [intOf]; omega
   ·have hmI : (0 : Int) < (m : Int) := by omega
    have e0 : ((m : Int) == 0) = false := by rw [beq_eq_false_iff_ne]; omega
    have e3 : (m : Int) ≠ 0 := by omega
    have e4 : ¬ (m : Int) = 0 := by omega
    have hrI : (r : Int) < (m : Int) := by omega
    subst hap
    replace hcc := hx.out.cell hcc
    have lcc := cell_lt hcc
    have hbx := hb.out
    clear hpj hidx
    go_upto_region 9 with (fail)
    refine name_wp (fun v1 hv => ?_)
    have x1 : Ext wr v1 := by rw [hv]; exact exE
    have b7 := hid (show C5 v1 wr.heap.size pr ll lh cl ch from ⟨by rw [hv]; simp [go_sem], by rw [hv]; simp [go_sem], by rw [hv]; simp [go_sem], by rw [hv]; simp [go_sem], by rw [hv]; simp [go_sem]⟩)
    clear hv
    obtain ⟨B, hB⟩ : ∃ B, wr.heap.size = B := ⟨_, rfl⟩
    rw [hB] at b7 ⊢
    clear hB
    refine wp_mono (stK9 b7.out.1 b7.out.2.1 b7.out.2.2.1 b7.out.2.2.2.1 b7.out.2.2.2.2 (Go.IntWalk.i64_in (lh - ll) (by have := hv1.out; omega)) (Go.IntWalk.i64_in (lh - ll + 1) (by have := hv1.out; omega)) (by have := hv1.out; omega) hA2.out (by have := g12.out; have := hv1.out; omega) (Go.IntWalk.i64_in (ll + A) (by have := g12.out; have := hv1.out; omega)) hQ2.out hQr.out (Go.IntWalk.i64_in (ch - cl) (by have := hv2.out; omega)) (Go.IntWalk.i64_in (ch - cl + 1) (by have := hv2.out; omega)) (by have := hv2.out; omega) hB2.out (by have := g34.out; have := hv2.out; omega) (Go.IntWalk.i64_in (cl + Bm) (by have := g34.out; have := hv2.out; omega))) ?_
    rintro e a' v2 ⟨rfl, zG', zH', zI', zJ', zK', zL', zM', zN', zO', zP', zQ', zR', zS', zT', zU', zV', zW', zX', zY', zZ', uA', uB', uC', uD', uE', uF', uG', uH', uI', rfl, x2⟩
    have x12 := x1.trans x2
    have hx2 := hid (hx.out.trans x12)
    have ho2 := hid (ho.out.ext x12)
    replace b7 := hid (b7.out.ext x2)
    clear hcc lcc x1 x2 x12 q0 q1 q2 q3 q4 hx ho hsz
    obtain ⟨o0, o1, o2_, o3, o4⟩ := b7.out
    have lo := cell_lt o0
    dsimp only at lo
    have hsz := hx2.out.size
    go_wp2_with fail
    refine (metalL_any _ _ _ _ _ _).mono ?_; rintro e v3 ⟨rfl, hE⟩
    have x3 : Ext v2 v3 := exE
    have hx3 := hid (hx2.out.trans x3)
    have ho3 := hid (ho2.out.ext x3)
    clear hE hx2 ho2 o0 o1 o2_ o3 o4 lo hsz b7
    have hsz := hx3.out.size
    go_wp2_with (at_builtin; refine wpList_plain rfl (fun K hK => ?_); refine appG_wp _ _ _ rfl 68 5 40 Try.underlying22 elemMt (by decide) w.heap.size (fun i r => mtV (F i) r) j _ rfl _ 0 1 1 (fun _ r => mtV (F j) r) rfl (ho3.out.ext exE) (by rw [hFF.out]; exact el5 (by simp [go_sem]) (by simp [go_sem]) (by simp [go_sem]) (by simp [go_sem]) (by simp [go_sem])) (by decide) (fun _ _ _ _ => rfl) (by omega) (by decide) (by simp; omega) (fun i r => mtV (F i) r) (fun _ _ _ _ => rfl) (fun i r hi _ => by rw [show i = 0 by omega]; rfl) ?_; intro b8 cp8 w8 own8 g8 at8 hb8 ext8; refine hK _ _ ?_)
    go_roundw
    case rel => exact ⟨j + 1, by omega, by go_num, hid own8, hid (ext8 _ (by have := hx3.out; exact exE) (Nat.le_refl _))⟩
    case measure => simp [intOf]; omega
  ·have hjn : j = n := by omega
   subst hjn
   obtain ⟨a', c', e1, hMt⟩ := hend.out _ _ ho.out
   subst e1
   have hnn : ¬ (j : Int) < (j : Int) := by omega
   go_wp2_with fail
   go_ret
   have hfx := hx.out
   first | exact ⟨a', ⟨c', rfl⟩, hMt, hfx⟩ | exact ⟨a', ⟨c', rfl⟩, hMt.ext exE, exE⟩
set_option maxHeartbeats 40000000 in
theorem stY5 {A_ : Act} {yB yC yD yE yG yH yI yL yM yN yO yP yQ yR yS yT yU yV yW yX yY yZ zA zB zC zD zE zF zG zH zI zJ zK zL zM zN zO zP zQ zR zS zT zU zV zW zX zY zZ uA uB uC uD uE uF uG uH uI uJ uK uL uM uN uO uP uQ uR uS uT uU uV uW uX uY uZ iA iB iC iD iE iF iG iH iI iJ iK iL iM iN iO iP iQ iR iS iT iU iV iW iX iY iZ oA oB oC oD oE oF oG oH oI oJ oK oL oM oN oO oP oQ oR oS oT oU oV oW oX oY oZ qA qB qC qD qE qF qG qH qI qJ qK qL qM qN qO qP qQ qR qS qT qU qV qW qX qY : Value} {a a1 a2 : Option Addr} {n cap k1 k2 T : Nat} {u c E1 E2 E3 : Int} {w : World} (hA0_ : A_ = { tmps := #[.slice a n cap, yB, yC, yD, yE, .pointer (some ⟨T, 0, none⟩), yG, yH, yI, .slice a1 n k1, .slice a2 n k2, yL, yM, yN, yO, yP, yQ, yR, yS, yT, yU, yV, yW, yX, yY, yZ, zA, zB, zC, zD, zE, zF, zG, zH, zI, zJ, zK, zL, zM, zN, zO, zP, zQ, zR, zS, zT, zU, zV, zW, zX, zY, zZ, uA, uB, uC, uD, uE, uF, uG, uH, uI, uJ, uK, uL, uM, uN, uO, uP, uQ, uR, uS, uT, uU, uV, uW, uX, uY, uZ, iA, iB, iC, iD, iE, iF, iG, iH, iI, iJ, iK, iL, iM, iN, iO, iP, iQ, iR, iS, iT, iU, iV, iW, iX, iY, iZ, oA, oB, oC, oD, oE, oF, oG, oH, oI, oJ, oK, oL, oM, oN, oO, oP, oQ, oR, oS, oT, oU, oV, oW, oX, oY, oZ, qA, qB, qC, qD, qE, qF, qG, qH, qI, qJ, qK, qL, qM, qN, qO, qP, qQ, qR, qS, qT, qU, qV, qW, qX, qY], defers := [] }) (hd1 : ∀ W, Ext w W → Calls Try.prog 27 #[.slice a n cap, .agg #[.int .i64 u, .int .i64 c], .bool true, .slice a1 n k1] W fun e w' => e = .returned (.int .i64 E1) ∧ Ext W w') (hd2 : ∀ W, Ext w W → Calls Try.prog 27 #[.slice a n cap, .agg #[.int .i64 u, .int .i64 c], .bool false, .slice a1 n k1] W fun e w' => e = .returned (.int .i64 E2) ∧ Ext W w') (hd3 : ∀ W, Ext w W → Calls Try.prog 27 #[.slice a2 n k2, .agg #[.int .i64 u, .int .i64 c], .bool true, .slice a1 n k1] W fun e w' => e = .returned (.int .i64 E3) ∧ Ext W w') (t0 : w.cell? ⟨T, 0, none⟩ = some (.int .i64 u)) (t1 : w.cell? ⟨T, 1, none⟩ = some (.int .i64 c)) :
 Code.wp Try.prog (rgn Try.f9 5) (fun e a' w' => e = .normal ∧ a' = ({ tmps := #[.slice a n cap,yB,yC,yD,yE,.pointer (some ⟨T, 0, none⟩),yG,yH,yI,.slice a1 n k1,.slice a2 n k2,.int .i64 E1,.int .i64 E2,.int .i64 E3,yO,yP,yQ,yR,yS,yT,yU,yV,yW,yX,yY,yZ,zA,zB,zC,zD,zE,zF,zG,zH,zI,zJ,zK,zL,zM,zN,zO,zP,zQ,zR,zS,.slice a n cap,.agg #[.int .i64 u, .int .i64 c],.slice a1 n k1,.int .i64 E1,.slice a n cap,.agg #[.int .i64 u, .int .i64 c],.slice a1 n k1,.int .i64 E2,.slice a2 n k2,.agg #[.int .i64 u, .int .i64 c],.slice a1 n k1,.int .i64 E3,uF,uG,uH,uI,uJ,uK,uL,uM,uN,uO,uP,uQ,uR,uS,uT,uU,uV,uW,uX,uY,uZ,iA,iB,iC,iD,iE,iF,iG,iH,iI,iJ,iK,iL,iM,iN,iO,iP,iQ,iR,iS,iT,iU,iV,iW,iX,iY,iZ,oA,oB,oC,oD,oE,oF,oG,oH,oI,oJ,oK,oL,oM,oN,oO,oP,oQ,oR,oS,oT,oU,oV,oW,oX,oY,oZ,qA,qB,qC,qD,qE,qF,qG,qH,qI,qJ,qK,qL,qM,qN,qO,qP,qQ,qR,qS,qT,qU,qV,qW,qX,qY], defers := [] } : Act) ∧ Ext w w') A_ w := by
 conv => arg 2; whnf
 refine st_intro (fun Q2 hQ2 => ?_)
 have hA_ := hid hA0_
 clear hA0_
 have hpan : ∀ c a a' w w', Q2 (.panic c) a w → Q2 (.panic c) a' w' := by rw [hQ2]; rintro c a a' w w' ⟨h, _⟩; cases h
 replace hQ2 := hid hQ2
 replace hd1 := hid hd1
 replace hd2 := hid hd2
 replace hd3 := hid hd3
 have hRD_ := hid (fun w' (x_ : Ext w w') => And.intro (Ext.cell x_ t0) (Ext.cell x_ t1))
 refine wp_region_held_drew (S := fun w' => Ext w w') (by kernel_rfl) exE fun hHeld => ?_
 try simp only [List.append_eq, List.cons_append, List.nil_append]
 refine name_any (fun W0 hW => ?_)
 have s0 : Ext w W0 := by rw [hW]; exact hHeld
 clear hW hHeld
 refine wpF_intro 15 (by kernel_rfl) (fun F hF => ?_)
 replace hF := hid hF
 have N1_0 : ∀ (f_ : Nat) (l_ : Array Bool) (W0 : World) (a_ : Act), f_ = 4 → l_ = #[true, true, true, true, true, true, true, true, true, true, true, false, false, false, false] → a_ = ({ tmps := #[.slice a n cap,yB,yC,yD,yE,.pointer (some ⟨T, 0, none⟩),yG,yH,yI,.slice a1 n k1,.slice a2 n k2,yL,yM,yN,yO,yP,yQ,yR,yS,yT,yU,yV,yW,yX,yY,yZ,zA,zB,zC,zD,zE,zF,zG,zH,zI,zJ,zK,zL,zM,zN,zO,zP,zQ,zR,zS,.slice a n cap,.agg #[.int .i64 u, .int .i64 c],.slice a1 n k1,.int .i64 E1,.slice a n cap,.agg #[.int .i64 u, .int .i64 c],.slice a1 n k1,.int .i64 E2,.slice a2 n k2,.agg #[.int .i64 u, .int .i64 c],.slice a1 n k1,uE,uF,uG,uH,uI,uJ,uK,uL,uM,uN,uO,uP,uQ,uR,uS,uT,uU,uV,uW,uX,uY,uZ,iA,iB,iC,iD,iE,iF,iG,iH,iI,iJ,iK,iL,iM,iN,iO,iP,iQ,iR,iS,iT,iU,iV,iW,iX,iY,iZ,oA,oB,oC,oD,oE,oF,oG,oH,oI,oJ,oK,oL,oM,oN,oO,oP,oQ,oR,oS,oT,oU,oV,oW,oX,oY,oZ,qA,qB,qC,qD,qE,qF,qG,qH,qI,qJ,qK,qL,qM,qN,qO,qP,qQ,qR,qS,qT,qU,qV,qW,qX,qY], defers := [] } : Act) → Ext w W0 → F f_ l_ a_ W0 := by
  intro  f_ l_ W0 a_ hf_ hl_ ha_ s0
  subst hf_ hl_ ha_
  refine (hF.out _ _ _ _).2 ?_
  refine wpAnyH_ready (rs := [11]) (by kernel_rfl) (by simp) ?_
  refine AllReadyH.cons (o := _) rfl (fun K hK => ?_) AllReadyH.nil
  refine tk_call (by kernel_rfl) (hd3.out _ s0) (by kernel_rfl) ?_; rintro e W1 ⟨rfl, e1⟩; refine ⟨_, rfl, ?_⟩
  have s1 := s0.trans e1
  refine hK.out _ _ s1 (fun _ => ?_)
  clear hK K
  try simp only [sxA, sxB, sxC, Act.put, sxD, sxE, sxF]
  refine tkB (i := 12) (v := ?_) rfl hpan ?yl ?_
  case yl => (intro w hSw; (try dsimp only at hSw);  go_simp); with_reducible rfl
  try simp only [sxA, sxB, sxC, Act.put, sxD, sxE, sxF]
  refine tkB (i := 13) (v := ?_) rfl hpan ?yl ?_
  case yl => (intro w hSw; (try dsimp only at hSw);  go_simp); with_reducible rfl
  try simp only [sxA, sxB, sxC, Act.put, sxD, sxE, sxF]
  refine tkB (i := 14) (v := ?_) rfl hpan ?yl ?_
  case yl => (intro w hSw; (try dsimp only at hSw);  go_simp); with_reducible rfl
  try simp only [sxA, sxB, sxC, Act.put, sxD, sxE, sxF]
  refine wpAnyH_done (by kernel_rfl) ?_ _
  try simp only [sxA, sxB, sxC, Act.put, sxD, sxE, sxF]
  rw [hQ2.out]
  refine ⟨rfl, ?eq1_1, s1⟩
  case eq1_1 => (first | with_reducible rfl | rfl)
 have N1_1 : ∀ (f_ : Nat) (l_ : Array Bool) (W0 : World) (a_ : Act), f_ = 5 → l_ = #[true, true, true, true, true, true, true, false, true, true, true, false, false, false, false] → a_ = ({ tmps := #[.slice a n cap,yB,yC,yD,yE,.pointer (some ⟨T, 0, none⟩),yG,yH,yI,.slice a1 n k1,.slice a2 n k2,yL,yM,yN,yO,yP,yQ,yR,yS,yT,yU,yV,yW,yX,yY,yZ,zA,zB,zC,zD,zE,zF,zG,zH,zI,zJ,zK,zL,zM,zN,zO,zP,zQ,zR,zS,.slice a n cap,.agg #[.int .i64 u, .int .i64 c],.slice a1 n k1,.int .i64 E1,.slice a n cap,.agg #[.int .i64 u, .int .i64 c],.slice a1 n k1,uA,.slice a2 n k2,.agg #[.int .i64 u, .int .i64 c],.slice a1 n k1,uE,uF,uG,uH,uI,uJ,uK,uL,uM,uN,uO,uP,uQ,uR,uS,uT,uU,uV,uW,uX,uY,uZ,iA,iB,iC,iD,iE,iF,iG,iH,iI,iJ,iK,iL,iM,iN,iO,iP,iQ,iR,iS,iT,iU,iV,iW,iX,iY,iZ,oA,oB,oC,oD,oE,oF,oG,oH,oI,oJ,oK,oL,oM,oN,oO,oP,oQ,oR,oS,oT,oU,oV,oW,oX,oY,oZ,qA,qB,qC,qD,qE,qF,qG,qH,qI,qJ,qK,qL,qM,qN,qO,qP,qQ,qR,qS,qT,qU,qV,qW,qX,qY], defers := [] } : Act) → Ext w W0 → F f_ l_ a_ W0 := by
  intro  f_ l_ W0 a_ hf_ hl_ ha_ s0
  subst hf_ hl_ ha_
  refine (hF.out _ _ _ _).2 ?_
  refine wpAnyH_ready (rs := [7]) (by kernel_rfl) (by simp) ?_
  refine AllReadyH.cons (o := _) rfl (fun K hK => ?_) AllReadyH.nil
  refine tk_call (by kernel_rfl) (hd2.out _ s0) (by kernel_rfl) ?_; rintro e W1 ⟨rfl, e1⟩; refine ⟨_, rfl, ?_⟩
  have s1 := s0.trans e1
  refine hK.out _ _ s1 (fun _ => ?_)
  clear hK K
  try simp only [sxA, sxB, sxC, Act.put, sxD, sxE, sxF]
  refine (hF.out _ _ _ _).1 ?_
  exact N1_0 _ _ W1 _ (by first | rfl | kernel_rfl) (by first | rfl | kernel_rfl) (by (try simp only [sxA, sxB, sxC, Act.put, sxD, sxE, sxF]); first | done | with_reducible rfl | rfl) s1
 have N1_2 : ∀ (f_ : Nat) (l_ : Array Bool) (W0 : World) (a_ : Act), f_ = 6 → l_ = #[true, true, true, false, true, true, true, false, true, true, true, false, false, false, false] → a_ = ({ tmps := #[.slice a n cap,yB,yC,yD,yE,.pointer (some ⟨T, 0, none⟩),yG,yH,yI,.slice a1 n k1,.slice a2 n k2,yL,yM,yN,yO,yP,yQ,yR,yS,yT,yU,yV,yW,yX,yY,yZ,zA,zB,zC,zD,zE,zF,zG,zH,zI,zJ,zK,zL,zM,zN,zO,zP,zQ,zR,zS,.slice a n cap,.agg #[.int .i64 u, .int .i64 c],.slice a1 n k1,zW,.slice a n cap,.agg #[.int .i64 u, .int .i64 c],.slice a1 n k1,uA,.slice a2 n k2,.agg #[.int .i64 u, .int .i64 c],.slice a1 n k1,uE,uF,uG,uH,uI,uJ,uK,uL,uM,uN,uO,uP,uQ,uR,uS,uT,uU,uV,uW,uX,uY,uZ,iA,iB,iC,iD,iE,iF,iG,iH,iI,iJ,iK,iL,iM,iN,iO,iP,iQ,iR,iS,iT,iU,iV,iW,iX,iY,iZ,oA,oB,oC,oD,oE,oF,oG,oH,oI,oJ,oK,oL,oM,oN,oO,oP,oQ,oR,oS,oT,oU,oV,oW,oX,oY,oZ,qA,qB,qC,qD,qE,qF,qG,qH,qI,qJ,qK,qL,qM,qN,qO,qP,qQ,qR,qS,qT,qU,qV,qW,qX,qY], defers := [] } : Act) → Ext w W0 → F f_ l_ a_ W0 := by
  intro  f_ l_ W0 a_ hf_ hl_ ha_ s0
  subst hf_ hl_ ha_
  refine (hF.out _ _ _ _).2 ?_
  clear N1_0
  refine wpAnyH_ready (rs := [3]) (by kernel_rfl) (by simp) ?_
  refine AllReadyH.cons (o := _) rfl (fun K hK => ?_) AllReadyH.nil
  refine tk_call (by kernel_rfl) (hd1.out _ s0) (by kernel_rfl) ?_; rintro e W1 ⟨rfl, e1⟩; refine ⟨_, rfl, ?_⟩
  have s1 := s0.trans e1
  refine hK.out _ _ s1 (fun _ => ?_)
  clear hK K
  try simp only [sxA, sxB, sxC, Act.put, sxD, sxE, sxF]
  refine (hF.out _ _ _ _).1 ?_
  exact N1_1 _ _ W1 _ (by first | rfl | kernel_rfl) (by first | rfl | kernel_rfl) (by (try simp only [sxA, sxB, sxC, Act.put, sxD, sxE, sxF]); first | done | with_reducible rfl | rfl) s1
 rw [hA_.out]
 refine (hF.out _ _ _ _).2 ?_
 refine tkB (i := 0) (v := ?_) rfl hpan ?yl ?_
 case yl => (intro w hSw; (try dsimp only at hSw);  go_simp); with_reducible rfl
 try simp only [sxA, sxB, sxC, Act.put, sxD, sxE, sxF]
 refine tkB (i := 1) (v := ?_) rfl hpan ?yl ?_
 case yl => (intro w hSw; have k_ := hRD_.out w hSw; go_simp); with_reducible rfl
 try simp only [sxA, sxB, sxC, Act.put, sxD, sxE, sxF]
 refine tkB (i := 2) (v := ?_) rfl hpan ?yl ?_
 case yl => (intro w hSw; (try dsimp only at hSw);  go_simp); with_reducible rfl
 try simp only [sxA, sxB, sxC, Act.put, sxD, sxE, sxF]
 refine tkB (i := 4) (v := ?_) rfl hpan ?yl ?_
 case yl => (intro w hSw; (try dsimp only at hSw);  go_simp); with_reducible rfl
 try simp only [sxA, sxB, sxC, Act.put, sxD, sxE, sxF]
 refine tkB (i := 5) (v := ?_) rfl hpan ?yl ?_
 case yl => (intro w hSw; have k_ := hRD_.out w hSw; go_simp); with_reducible rfl
 try simp only [sxA, sxB, sxC, Act.put, sxD, sxE, sxF]
 refine tkB (i := 6) (v := ?_) rfl hpan ?yl ?_
 case yl => (intro w hSw; (try dsimp only at hSw);  go_simp); with_reducible rfl
 try simp only [sxA, sxB, sxC, Act.put, sxD, sxE, sxF]
 refine tkB (i := 8) (v := ?_) rfl hpan ?yl ?_
 case yl => (intro w hSw; (try dsimp only at hSw);  go_simp); with_reducible rfl
 try simp only [sxA, sxB, sxC, Act.put, sxD, sxE, sxF]
 refine tkB (i := 9) (v := ?_) rfl hpan ?yl ?_
 case yl => (intro w hSw; have k_ := hRD_.out w hSw; go_simp); with_reducible rfl
 try simp only [sxA, sxB, sxC, Act.put, sxD, sxE, sxF]
 refine tkB (i := 10) (v := ?_) rfl hpan ?yl ?_
 case yl => (intro w hSw; (try dsimp only at hSw);  go_simp); with_reducible rfl
 try simp only [sxA, sxB, sxC, Act.put, sxD, sxE, sxF]
 refine (hF.out _ _ _ _).1 ?_
 exact N1_2 _ _ W0 _ (by first | rfl | kernel_rfl) (by first | rfl | kernel_rfl) (by (try simp only [sxA, sxB, sxC, Act.put, sxD, sxE, sxF]); first | done | with_reducible rfl | rfl) s0
set_option maxHeartbeats 40000000 in
theorem stY6 {yB yC yD yE yG yH yI yO yP yQ yR yS yT yU yV yW yX yY yZ zA zB zC zD zE zF zG zH zI zJ zK zL zM zN zO zP zQ zR zS zT zU zV zW zX zY zZ uA uB uC uD uE uF uG uH uI uJ uK uL uM uN uO uP uQ uR uS uT uU uV uW uX uY uZ iA iB iC iD iE iF iG iH iI iJ iK iL iM iN iO iP iQ iR iS iT iU iV iW iX iY iZ oA oB oC oD oE oF oG oH oI oJ oK oL oM oN oO oP oQ oR oS oT oU oV oW oX oY oZ qA qB qC qD qE qF qG qH qI qJ qK qL qM qN qO qP qQ qR qS qT qU qV qW qX qY : Value} {a a1 a2 : Option Addr} {n cap k1 k2 T : Nat} {u c E1 E2 E3 : Int} {w : World} (hd4 : ∀ W, Ext w W → Calls Try.prog 27 #[.slice a2 n k2, .agg #[.int .i64 u, .int .i64 c], .bool false, .slice a1 n k1] W fun e w' => e = .returned (.int .i64 E3) ∧ Ext W w') (hc : (E1 = 0 ∧ E2 = 0 ∧ E3 = 0) ∨ (E1 = 17 ∧ E2 = 0 ∧ E3 = 0) ∨ (E1 = 17 ∧ E2 = 0 ∧ E3 = 17) ∨ (E1 = 17 ∧ E2 = 17 ∧ E3 = 17)) (t0 : w.cell? ⟨T, 0, none⟩ = some (.int .i64 u)) (t1 : w.cell? ⟨T, 1, none⟩ = some (.int .i64 c)) :
 Code.wp Try.prog (rgn Try.f9 6) (fun e a' w' => e = .normal ∧ ∃ (uF' uG' uH' uI' uJ' uK' uL' uM' uN' uO' uP' uQ' uR' uS' uT' uU' uV' uW' uX' uY' uZ' iA' iB' iC' iD' iE' iF' iG' iH' iI' iJ' iK' iL' iM' iN' iO' iP' iQ' iR' iS' iT' : Value), a' = { tmps := #[.slice a n cap,yB,yC,yD,yE,.pointer (some ⟨T, 0, none⟩),yG,yH,yI,.slice a1 n k1,.slice a2 n k2,.int .i64 E1,.int .i64 E2,.int .i64 E3,yO,yP,yQ,yR,yS,yT,yU,yV,yW,yX,yY,yZ,zA,zB,zC,zD,zE,zF,zG,zH,zI,zJ,zK,zL,zM,zN,zO,zP,zQ,zR,zS,zT,zU,zV,zW,zX,zY,zZ,uA,uB,uC,uD,uE,uF',uG',uH',uI',uJ',uK',uL',uM',uN',uO',uP',uQ',uR',uS',uT',uU',uV',uW',uX',uY',uZ',iA',iB',iC',iD',iE',iF',iG',iH',iI',iJ',iK',iL',iM',iN',iO',iP',iQ',iR',iS',iT',.bool false,iV,iW,iX,iY,iZ,oA,oB,oC,oD,oE,oF,oG,oH,oI,oJ,oK,oL,oM,oN,oO,oP,oQ,oR,oS,oT,oU,oV,oW,oX,oY,oZ,qA,qB,qC,qD,qE,qF,qG,qH,qI,qJ,qK,qL,qM,qN,qO,qP,qQ,qR,qS,qT,qU,qV,qW,qX,qY], defers := [] } ∧ Ext w w') { tmps := #[.slice a n cap,yB,yC,yD,yE,.pointer (some ⟨T, 0, none⟩),yG,yH,yI,.slice a1 n k1,.slice a2 n k2,.int .i64 E1,.int .i64 E2,.int .i64 E3,yO,yP,yQ,yR,yS,yT,yU,yV,yW,yX,yY,yZ,zA,zB,zC,zD,zE,zF,zG,zH,zI,zJ,zK,zL,zM,zN,zO,zP,zQ,zR,zS,zT,zU,zV,zW,zX,zY,zZ,uA,uB,uC,uD,uE,uF,uG,uH,uI,uJ,uK,uL,uM,uN,uO,uP,uQ,uR,uS,uT,uU,uV,uW,uX,uY,uZ,iA,iB,iC,iD,iE,iF,iG,iH,iI,iJ,iK,iL,iM,iN,iO,iP,iQ,iR,iS,iT,iU,iV,iW,iX,iY,iZ,oA,oB,oC,oD,oE,oF,oG,oH,oI,oJ,oK,oL,oM,oN,oO,oP,oQ,oR,oS,oT,oU,oV,oW,oX,oY,oZ,qA,qB,qC,qD,qE,qF,qG,qH,qI,qJ,qK,qL,qM,qN,qO,qP,qQ,qR,qS,qT,qU,qV,qW,qX,qY], defers := [] } w := by
 conv => arg 2; whnf
 refine st_intro (fun Q2 hQ2 => ?_)
 replace hQ2 := hid hQ2
 replace hd4 := hid hd4
 have lT := cell_lt t0
 dsimp only at lT
 rcases hc with ⟨rfl, rfl, rfl⟩ | ⟨rfl, rfl, rfl⟩ | ⟨rfl, rfl, rfl⟩ | ⟨rfl, rfl, rfl⟩
 ·skip
  go_wp2_with fail
  refine (hd4.out _ exE).mono ?_; rintro e u1 ⟨rfl, hE⟩
  have x : Ext w u1 := exE
  clear hE
  go_wp2_with fail
  rw [hQ2.out]
  exact ⟨rfl, _, _, _, _, _, _, _, _, _, _, _, _, _, _, _, _, _, _, _, _, _, _, _, _, _, _, _, _, _, _, _, _, _, _, _, _, _, _, _, _, _, rfl, exE⟩
 ·skip
  go_wp2_with fail
  refine (hd4.out _ exE).mono ?_; rintro e u1 ⟨rfl, hE⟩
  have x : Ext w u1 := exE
  clear hE
  go_wp2_with fail
  rw [hQ2.out]
  exact ⟨rfl, _, _, _, _, _, _, _, _, _, _, _, _, _, _, _, _, _, _, _, _, _, _, _, _, _, _, _, _, _, _, _, _, _, _, _, _, _, _, _, _, _, rfl, exE⟩
 ·skip
  go_wp2_with fail
  refine (hd4.out _ exE).mono ?_; rintro e u1 ⟨rfl, hE⟩
  have x : Ext w u1 := exE
  clear hE
  go_wp2_with fail
  rw [hQ2.out]
  exact ⟨rfl, _, _, _, _, _, _, _, _, _, _, _, _, _, _, _, _, _, _, _, _, _, _, _, _, _, _, _, _, _, _, _, _, _, _, _, _, _, _, _, _, _, rfl, exE⟩
 ·skip
  go_wp2_with fail
  refine (hd4.out _ exE).mono ?_; rintro e u1 ⟨rfl, hE⟩
  have x : Ext w u1 := exE
  clear hE
  go_wp2_with fail
  rw [hQ2.out]
  exact ⟨rfl, _, _, _, _, _, _, _, _, _, _, _, _, _, _, _, _, _, _, _, _, _, _, _, _, _, _, _, _, _, _, _, _, _, _, _, _, _, _, _, _, _, rfl, exE⟩
set_option maxHeartbeats 40000000 in
theorem stY11 {yA yB yC yD yE yF yG yH yI yJ yK yL yM yN yX yY yZ zA zB zC zD zE zF zG zH zI zJ zK zL zM zN zO zP zQ zR zS zT zU zV zW zX zY zZ uA uB uC uD uE uF uG uH uI uJ uK uL uM uN uO uP uQ uR uS uT uU uV uW uX uY uZ iA iB iC iD iE iF iG iH iI iJ iK iL iM iN iO iP iQ iR iS iT iU iV iW iX iY iZ oA oB oC oD oE oF oG oH oI oJ oK oL oM oN oO oP oQ oR oS oT oU oV oW oX oY oZ qA qB qC qD qE qF qG qH qI qJ qK qL qM qN qO qP qQ qR qS qT qU qV qW qX qY : Value} {B1 B2 B3 : Nat} {N1 D1 N2 D2 N3 D3 : Int} {b1 b2 b3 : Bool} {w : World} (hc : (b1 = true ∧ b2 = true ∧ b3 = true ∧ (∀ W, Calls Try.prog 46 #[.agg #[.int .i64 N1, .int .i64 D1], .agg #[.int .i64 N3, .int .i64 D3]] W fun e w' => e = .returned (.bool false) ∧ Ext W w') ∧ (∀ W, Calls Try.prog 46 #[.agg #[.int .i64 N3, .int .i64 D3], .agg #[.int .i64 N2, .int .i64 D2]] W fun e w' => e = .returned (.bool false) ∧ Ext W w')) ∨ (b1 = false ∧ b2 = true ∧ b3 = true ∧ (∀ W, Calls Try.prog 46 #[.agg #[.int .i64 N3, .int .i64 D3], .agg #[.int .i64 N2, .int .i64 D2]] W fun e w' => e = .returned (.bool false) ∧ Ext W w')) ∨ (b1 = false ∧ b3 = false)) (c10 : w.cell? ⟨B1, 0, none⟩ = some (.int .i64 N1)) (c11 : w.cell? ⟨B1, 1, none⟩ = some (.int .i64 D1)) (c20 : w.cell? ⟨B2, 0, none⟩ = some (.int .i64 N2)) (c21 : w.cell? ⟨B2, 1, none⟩ = some (.int .i64 D2)) (c30 : w.cell? ⟨B3, 0, none⟩ = some (.int .i64 N3)) (c31 : w.cell? ⟨B3, 1, none⟩ = some (.int .i64 D3)) :
 Code.wp Try.prog (rgn Try.f9 11) (fun e a' w' => e = .normal ∧ ∃ (oQ' oR' oS' oT' oU' oV' oW' oX' oY' oZ' qA' qB' qC' qD' qE' qF' qG' qH' qI' qJ' qK' qL' qM' qN' qO' qP' qQ' qR' qS' qT' qU' qV' qW' : Value), a' = { tmps := #[yA,yB,yC,yD,yE,yF,yG,yH,yI,yJ,yK,yL,yM,yN,.pointer (some ⟨B1, 0, none⟩),.bool b1,.bool true,.pointer (some ⟨B2, 0, none⟩),.bool b2,.bool true,.pointer (some ⟨B3, 0, none⟩),.bool b3,.bool true,yX,yY,yZ,zA,zB,zC,zD,zE,zF,zG,zH,zI,zJ,zK,zL,zM,zN,zO,zP,zQ,zR,zS,zT,zU,zV,zW,zX,zY,zZ,uA,uB,uC,uD,uE,uF,uG,uH,uI,uJ,uK,uL,uM,uN,uO,uP,uQ,uR,uS,uT,uU,uV,uW,uX,uY,uZ,iA,iB,iC,iD,iE,iF,iG,iH,iI,iJ,iK,iL,iM,iN,iO,iP,iQ,iR,iS,iT,iU,iV,iW,iX,iY,iZ,oA,oB,oC,oD,oE,oF,oG,oH,oI,oJ,oK,oL,oM,oN,oO,oP,oQ',oR',oS',oT',oU',oV',oW',oX',oY',oZ',qA',qB',qC',qD',qE',qF',qG',qH',qI',qJ',qK',qL',qM',qN',qO',qP',qQ',qR',qS',qT',qU',qV',qW',.bool false,qY], defers := [] } ∧ Ext w w') { tmps := #[yA,yB,yC,yD,yE,yF,yG,yH,yI,yJ,yK,yL,yM,yN,.pointer (some ⟨B1, 0, none⟩),.bool b1,.bool true,.pointer (some ⟨B2, 0, none⟩),.bool b2,.bool true,.pointer (some ⟨B3, 0, none⟩),.bool b3,.bool true,yX,yY,yZ,zA,zB,zC,zD,zE,zF,zG,zH,zI,zJ,zK,zL,zM,zN,zO,zP,zQ,zR,zS,zT,zU,zV,zW,zX,zY,zZ,uA,uB,uC,uD,uE,uF,uG,uH,uI,uJ,uK,uL,uM,uN,uO,uP,uQ,uR,uS,uT,uU,uV,uW,uX,uY,uZ,iA,iB,iC,iD,iE,iF,iG,iH,iI,iJ,iK,iL,iM,iN,iO,iP,iQ,iR,iS,iT,iU,iV,iW,iX,iY,iZ,oA,oB,oC,oD,oE,oF,oG,oH,oI,oJ,oK,oL,oM,oN,oO,oP,oQ,oR,oS,oT,oU,oV,oW,oX,oY,oZ,qA,qB,qC,qD,qE,qF,qG,qH,qI,qJ,qK,qL,qM,qN,qO,qP,qQ,qR,qS,qT,qU,qV,qW,qX,qY], defers := [] } w := by
 conv => arg 2; whnf
 refine st_intro (fun Q2 hQ2 => ?_)
 replace hQ2 := hid hQ2
 have l1 := cell_lt c10; have l2 := cell_lt c20; have l3 := cell_lt c30
 dsimp only at l1 l2 l3
 rcases hc with ⟨rfl, rfl, rfl, h⟩ | ⟨rfl, rfl, rfl, h⟩ | ⟨rfl, rfl⟩
 ·obtain ⟨h13, h32⟩ := h
  replace h13 := hid h13; replace h32 := hid h32
  go_wp2_with fail
  refine (h13.out _).mono ?_; rintro e uh13 ⟨rfl, hE⟩
  have xh13 : Ext w uh13 := exE
  clear hE
  replace c10 := xh13.cell c10
  replace c11 := xh13.cell c11
  replace c20 := xh13.cell c20
  replace c21 := xh13.cell c21
  replace c30 := xh13.cell c30
  replace c31 := xh13.cell c31
  have l1h13 := cell_lt c10; dsimp only at l1h13
  have l2h13 := cell_lt c20; dsimp only at l2h13
  have l3h13 := cell_lt c30; dsimp only at l3h13
  go_wp2_with fail
  refine (h32.out _).mono ?_; rintro e u2 ⟨rfl, hE⟩
  have x : Ext w u2 := xh13.trans exE
  clear hE
  go_wp2_with fail
  rw [hQ2.out]
  exact ⟨rfl, _, _, _, _, _, _, _, _, _, _, _, _, _, _, _, _, _, _, _, _, _, _, _, _, _, _, _, _, _, _, _, _, _, rfl, exE⟩
 ·skip
  replace h := hid h
  go_wp2_with fail
  refine (h.out _).mono ?_; rintro e u2 ⟨rfl, hE⟩
  have x : Ext w u2 := exE
  clear hE
  go_wp2_with fail
  rw [hQ2.out]
  exact ⟨rfl, _, _, _, _, _, _, _, _, _, _, _, _, _, _, _, _, _, _, _, _, _, _, _, _, _, _, _, _, _, _, _, _, _, rfl, exE⟩
 ·skip
  go_wp2_with fail
  rw [hQ2.out]
  exact ⟨rfl, _, _, _, _, _, _, _, _, _, _, _, _, _, _, _, _, _, _, _, _, _, _, _, _, _, _, _, _, _, _, _, _, _, rfl, exE⟩
set_option maxHeartbeats 16000000 in
theorem alloySurely_any (l : List Met) (q : FitM l) (a : Option Addr) (cap : Nat) (u c : Int) (p : List Int) (hp : ∀ i, 0 ≤ nth p i ∧ nth p i ≤ 65535) (ap : Option Addr) (cpp : Nat) (r : List Int) (hr : ∀ i, 0 ≤ nth r i ∧ nth r i ≤ 65535) (ar : Option Addr) (crr : Nat) (w : World) (hM : Mts w a l) (hl : l.length ≤ 9223372036854775807) (iu : I64 u) (ic : I64 c) (hP : Wrds w ap p) (hlp : p.length ≤ 9223372036854775807) (hR : Wrds w ar r) (hlr : r.length ≤ 9223372036854775807) :
 Calls Try.prog 9 #[.slice a l.length cap, (.agg #[.int .i64 (u), .int .i64 (c)]), .slice ap p.length cpp, .slice ar r.length crr] w fun e w' => e = .returned (.bool true) ∧ Ext w w' := by
 have hf := hid (fun W (x : Ext w W) => fineL_any l q hl a cap u c W (hM.ext x))
 by_cases g : chkB l u c = 0
 case neg =>
  rw [decide_eq_false g] at hf
  replace g := hid g
  clear hM hP hR
  go_enter Try.func9, Try.ntmps9
  go_wp2_with fail
  refine (hf.out _ exE).mono ?_; rintro e w1 ⟨rfl, hE⟩
  have x1 := hid (show Ext w w1 from exE)
  go_wp2_with fail
  refine (works_any _).mono ?_; rintro e w2 ⟨rfl, hE2⟩
  go_wp2_with fail
  go_ret
  exact ⟨rfl, by have := x1.out; exact exE⟩
 rw [decide_eq_true g] at hf
 by_cases gpp : 20 < p.length
 ·have gIp : (20 : Int) < (p.length : Int) := by omega
  replace g := hid g
  clear hM hP hR
  go_enter Try.func9, Try.ntmps9
  go_wp2_with fail
  refine (hf.out _ exE).mono ?_; rintro e w1 ⟨rfl, hE⟩
  have x1 := hid (show Ext w w1 from exE)
  go_wp2_with fail
  refine (works_any _).mono ?_; rintro e w2 ⟨rfl, hE2⟩
  go_wp2_with fail
  go_ret
  exact ⟨rfl, by have := x1.out; exact exE⟩
 have gIp : ¬ (20 : Int) < (p.length : Int) := by omega
 by_cases gpr : 20 < r.length
 ·have gIr : (20 : Int) < (r.length : Int) := by omega
  replace g := hid g
  clear hM hP hR
  go_enter Try.func9, Try.ntmps9
  go_wp2_with fail
  refine (hf.out _ exE).mono ?_; rintro e w1 ⟨rfl, hE⟩
  have x1 := hid (show Ext w w1 from exE)
  go_wp2_with fail
  refine (works_any _).mono ?_; rintro e w2 ⟨rfl, hE2⟩
  go_wp2_with fail
  go_ret
  exact ⟨rfl, by have := x1.out; exact exE⟩
 have gIr : ¬ (20 : Int) < (r.length : Int) := by omega
 obtain ⟨v, hu, hc⟩ := chkB_ok g
 have n1 := v.n1; have n6 := v.n6
 have hl2 : l.length ≤ 1000 := by omega
 have hcm : chkM l = 0 := by by_cases h : chkM l = 0; exact h; (unfold chkB at g; rw [if_neg h] at g; exact absurd g h)
 have hmxx := hid (fun W (x : Ext w W) => mixedL_any l.length n6 p hp hlp ap cpp W (hP.ext x))
 have vxx := pln_vld (m := l.length) hp n1
 obtain ⟨x, hdfx⟩ : ∃ x, pln l.length p = x := ⟨_, rfl⟩
 rw [hdfx] at hmxx vxx
 have fx : Hid (∀ i, I64 (nth x i)) := hid fun i => ⟨by have := vxx.nn i; omega, by have := vxx.le i; omega⟩
 have xl := hid vxx.len
 have xl2 : x.length ≤ 1000 := by rw [xl.out]; omega
 have vk := knL_vld v r
 have hgk := vld_chk vk hu hc
 have hkl := hid (knL_len l r)
 have fk := vld_fit vk
 have hKn := hid (fun W (x : Ext w W) => knownL_any l v r hr hlr a cap ar crr W (hM.ext x) (hR.ext x))
 have hD := fun (s : Bool) a1 c1 W h1 h2 => deserves_any l q hl2 a cap u c iu ic s x fx.out xl2 a1 c1 W h1 h2
 have hDk := fun (s : Bool) a2 c2 a1 c1 W h1 h2 => deserves_any (knL l r) fk (by rw [knL_len]; exact hl2) a2 c2 u c iu ic s x fx.out xl2 a1 c1 W h1 h2
 have hL := fun (s : Bool) W h => leastL_any l q g a cap iu ic s W h
 have hLk := fun a2 c2 W h => leastL_any (knL l r) fk hgk a2 c2 iu ic true W h
 rw [xl.out] at hD hDk
 rw [hkl.out] at hDk hLk
 have dk := des_known g r vxx
 have ok1 := des_two (u := u) (c := c) g true vxx
 have ok2 := des_two (u := u) (c := c) g false vxx
 have ok3 := des_two (u := u) (c := c) hgk true (x := x) (by rw [knL_len]; exact vxx)
 have hd4 := fun a2 c2 a1 c1 W h1 h2 => hDk false a2 c2 a1 c1 W h1 h2
 rw [dk.2.2] at hd4
 have hd3 := fun a2 c2 a1 c1 W h1 h2 => hDk true a2 c2 a1 c1 W h1 h2
 have hd1 := hid (fun a1 c1 W h1 h2 => hD true a1 c1 W h1 h2)
 have hd2 := hid (fun a1 c1 W h1 h2 => hD false a1 c1 W h1 h2)
 replace hd4 := hid hd4
 replace hd3 := hid hd3
 have hcs : Hid ((desE l u c true x = 0 ∧ desE l u c false x = 0 ∧ desE (knL l r) u c true x = 0) ∨ (desE l u c true x = 17 ∧ desE l u c false x = 0 ∧ desE (knL l r) u c true x = 0) ∨ (desE l u c true x = 17 ∧ desE l u c false x = 0 ∧ desE (knL l r) u c true x = 17) ∨ (desE l u c true x = 17 ∧ desE l u c false x = 17 ∧ desE (knL l r) u c true x = 17)) := hid (by obtain ⟨p1, p2, _⟩ := dk; omega)
 have lk := lst_known g r
 have o1 := lst_ok g true
 have o2 := lst_ok g false
 have o3 := lst_ok hgk true
 have hl1 := hid (fun W h => hL true W h)
 have hl2_ := hid (fun W h => hL false W h)
 replace hLk := hid hLk
 have hcc : Hid ((decide (cheE l u c true = 0) = true ∧ decide (cheE l u c false = 0) = true ∧ decide (cheE (knL l r) u c true = 0) = true ∧ (∀ W, Calls Try.prog 46 #[(.agg #[.int .i64 (lstN l u c true), .int .i64 (lstD l u c true)]), (.agg #[.int .i64 (lstN (knL l r) u c true), .int .i64 (lstD (knL l r) u c true)])] W fun e w' => e = .returned (.bool false) ∧ Ext W w') ∧ (∀ W, Calls Try.prog 46 #[(.agg #[.int .i64 (lstN (knL l r) u c true), .int .i64 (lstD (knL l r) u c true)]), (.agg #[.int .i64 (lstN l u c false), .int .i64 (lstD l u c false)])] W fun e w' => e = .returned (.bool false) ∧ Ext W w')) ∨ (decide (cheE l u c true = 0) = false ∧ decide (cheE l u c false = 0) = true ∧ decide (cheE (knL l r) u c true = 0) = true ∧ (∀ W, Calls Try.prog 46 #[(.agg #[.int .i64 (lstN (knL l r) u c true), .int .i64 (lstD (knL l r) u c true)]), (.agg #[.int .i64 (lstN l u c false), .int .i64 (lstD l u c false)])] W fun e w' => e = .returned (.bool false) ∧ Ext W w')) ∨ (decide (cheE l u c true = 0) = false ∧ decide (cheE (knL l r) u c true = 0) = false)) := hid (by
  have f32 : ∀ (h : cheE (knL l r) u c true = 0) W, Calls Try.prog 46 #[(.agg #[.int .i64 (lstN (knL l r) u c true), .int .i64 (lstD (knL l r) u c true)]), (.agg #[.int .i64 (lstN l u c false), .int .i64 (lstD l u c false)])] W fun e w' => e = .returned (.bool false) ∧ Ext W w' := fun h W => by have k := lk.2 h; have := lessR_any _ _ _ _ (OkS.mul (o3 h) (o2 k.1)) (OkS.mul (o2 k.1) (o3 h)) W; rw [k.2] at this; exact this
  by_cases e1 : cheE l u c true = 0
  ·have k1 := lk.1 e1; have k2 := lk.2 k1.1
   exact .inl ⟨decide_eq_true e1, decide_eq_true k2.1, decide_eq_true k1.1, fun W => by have := lessR_any _ _ _ _ (OkS.mul (o1 e1) (o3 k1.1)) (OkS.mul (o3 k1.1) (o1 e1)) W; rw [k1.2] at this; exact this, f32 k1.1⟩
  ·by_cases e3 : cheE (knL l r) u c true = 0
   ·exact .inr (.inl ⟨decide_eq_false e1, decide_eq_true (lk.2 e3).1, decide_eq_true e3, f32 e3⟩)
   ·exact .inr (.inr ⟨decide_eq_false e1, decide_eq_false e3⟩))
 replace hM := hid hM
 replace g := hid g
 clear q v vk fk hgk hu hc hcm vxx hdfx gpp gpr hl2 hD hDk hL dk ok1 ok2 ok3 lk o1 o2 o3
 replace hP := hid hP; replace hR := hid hR
 obtain ⟨n, hn⟩ : ∃ n, l.length = n := ⟨_, rfl⟩
 unfold RetM at hKn
 rw [hkl.out] at hKn
 rw [hn] at hf hmxx n1 n6 xl hKn hd1 hd2 hd3 hd4 hl1 hl2_ hLk ⊢
 replace hn := hid hn
 generalize lstN l u c true = N1 at *
 generalize lstD l u c true = D1 at *
 generalize lstN l u c false = N2 at *
 generalize lstD l u c false = D2 at *
 generalize lstN (knL l r) u c true = N3 at *
 generalize lstD (knL l r) u c true = D3 at *
 generalize decide (cheE l u c true = 0) = b1 at *
 generalize decide (cheE l u c false = 0) = b2 at *
 generalize decide (cheE (knL l r) u c true = 0) = b3 at *
 generalize desE l u c true x = E1 at *
 generalize desE l u c false x = E2 at *
 generalize desE (knL l r) u c true x = E3 at *
 go_enter Try.func9, Try.ntmps9
 go_wp2_with fail
 refine (hf.out _ exE).mono ?_; rintro e w1 ⟨rfl, hE⟩
 have X := hid (show Ext w w1 from exE)
 have t := hid (show C2 w1 w.heap.size (u) (c) from ⟨hE.cell (p := ⟨w.heap.size, 0, none⟩) (v := .int .i64 (u)) (by simp [go_sem]), hE.cell (p := ⟨w.heap.size, 1, none⟩) (v := .int .i64 (c)) (by simp [go_sem])⟩)
 replace hM := hid (hM.out.ext X.out)
 obtain ⟨T, hT⟩ : ∃ T, w.heap.size = T := ⟨_, rfl⟩
 rw [hT] at t ⊢
 clear hE hf hT
 go_wp2_with fail
 refine name_c (fun v1 hv => ?_)
 have x1 : Ext w1 v1 := by rw [hv]; exact exE
 replace X := hid (X.out.trans x1); replace hM := hid (hM.out.ext x1); replace t := hid (t.out.ext x1)
 clear hv x1
 refine (hmxx.out _ X.out).mono ?_; rintro e u2 ⟨a1, k1, rfl, hI, hE⟩
 replace X := hid (X.out.trans hE); replace hM := hid (hM.out.ext hE); replace t := hid (t.out.ext hE)
 clear hE
 replace hI := hid hI
 rw [xl.out]
 go_wp2_with fail
 refine name_c (fun v3 hv => ?_)
 have x1 : Ext u2 v3 := by rw [hv]; exact exE
 replace X := hid (X.out.trans x1); replace hM := hid (hM.out.ext x1); replace t := hid (t.out.ext x1); replace hI := hid (hI.out.ext x1)
 clear hv x1
 refine (hKn.out _ X.out).mono ?_; rintro e u4 ⟨a2, k2, rfl, hK, hE⟩
 replace X := hid (X.out.trans hE); replace hM := hid (hM.out.ext hE); replace t := hid (t.out.ext hE); replace hI := hid (hI.out.ext hE)
 clear hE
 replace hK := hid hK
 go_upto_region 5 with (fail)
 refine name_wp (fun v5 hv => ?_)
 have x1 : Ext u4 v5 := by rw [hv]; exact exE
 replace X := hid (X.out.trans x1); replace hM := hid (hM.out.ext x1); replace t := hid (t.out.ext x1); replace hI := hid (hI.out.ext x1)
 replace hK := hid (hK.out.ext x1)
 clear hv x1
 refine wp_mono (stY5 rfl (fun W h => hd1.out _ _ W (hM.out.ext h) (hI.out.ext h)) (fun W h => hd2.out _ _ W (hM.out.ext h) (hI.out.ext h)) (fun W h => hd3.out _ _ _ _ W (hK.out.ext h) (hI.out.ext h)) t.out.1 t.out.2) ?_
 rintro e a' v90 ⟨rfl, rfl, x⟩
 replace X := hid (X.out.trans x); replace hM := hid (hM.out.ext x); replace t := hid (t.out.ext x); replace hI := hid (hI.out.ext x)
 replace hK := hid (hK.out.ext x)
 clear x
 go_upto_region 6 with (fail)
 refine name_wp (fun v6 hv => ?_)
 have x1 : Ext v90 v6 := by rw [hv]; exact exE
 replace X := hid (X.out.trans x1); replace hM := hid (hM.out.ext x1); replace t := hid (t.out.ext x1); replace hI := hid (hI.out.ext x1)
 replace hK := hid (hK.out.ext x1)
 clear hv x1
 refine wp_mono (stY6 (fun W h => hd4.out _ _ _ _ W (hK.out.ext h) (hI.out.ext h)) hcs.out t.out.1 t.out.2) ?_
 rintro e a' v91 ⟨rfl, uF', uG', uH', uI', uJ', uK', uL', uM', uN', uO', uP', uQ', uR', uS', uT', uU', uV', uW', uX', uY', uZ', iA', iB', iC', iD', iE', iF', iG', iH', iI', iJ', iK', iL', iM', iN', iO', iP', iQ', iR', iS', iT', rfl, x⟩
 replace X := hid (X.out.trans x); replace hM := hid (hM.out.ext x); replace t := hid (t.out.ext x); replace hI := hid (hI.out.ext x)
 replace hK := hid (hK.out.ext x)
 clear x
 obtain ⟨o0, o1⟩ := t.out; have lo0 := cell_lt o0; dsimp only at lo0
 go_wp2_with fail
 refine name_c (fun v7 hv => ?_)
 have x1 : Ext v91 v7 := by rw [hv]; exact exE
 replace X := hid (X.out.trans x1); replace hM := hid (hM.out.ext x1); replace t := hid (t.out.ext x1); replace hI := hid (hI.out.ext x1)
 replace hK := hid (hK.out.ext x1)
 clear o0 o1 lo0
 clear hv x1
 refine (hl1.out _ hM.out).mono ?_; rintro e u8 ⟨rfl, hE⟩
 replace X := hid (X.out.trans hE); replace hM := hid (hM.out.ext hE); replace t := hid (t.out.ext hE); replace hI := hid (hI.out.ext hE)
 replace hK := hid (hK.out.ext hE)
 clear hE
 obtain ⟨o0, o1⟩ := t.out; have lo0 := cell_lt o0; dsimp only at lo0
 go_wp2_with fail
 refine name_c (fun v9 hv => ?_)
 have x1 : Ext u8 v9 := by rw [hv]; exact exE
 have b14 := hid (show C2 v9 u8.heap.size (N1) (D1) from ⟨by rw [hv]; simp [go_sem], by rw [hv]; simp [go_sem]⟩)
 replace X := hid (X.out.trans x1); replace hM := hid (hM.out.ext x1); replace t := hid (t.out.ext x1); replace hI := hid (hI.out.ext x1)
 replace hK := hid (hK.out.ext x1)
 clear o0 o1 lo0
 clear hv x1
 obtain ⟨Bb14, hBn⟩ : ∃ z, u8.heap.size = z := ⟨_, rfl⟩
 rw [hBn] at b14 ⊢
 clear hBn
 refine (hl2_.out _ hM.out).mono ?_; rintro e u10 ⟨rfl, hE⟩
 replace X := hid (X.out.trans hE); replace hM := hid (hM.out.ext hE); replace t := hid (t.out.ext hE); replace hI := hid (hI.out.ext hE)
 replace hK := hid (hK.out.ext hE); replace b14 := hid (b14.out.ext hE)
 clear hE
 obtain ⟨o0, o1⟩ := t.out; have lo0 := cell_lt o0; dsimp only at lo0
 go_wp2_with fail
 refine name_c (fun v11 hv => ?_)
 have x1 : Ext u10 v11 := by rw [hv]; exact exE
 have b17 := hid (show C2 v11 u10.heap.size (N2) (D2) from ⟨by rw [hv]; simp [go_sem], by rw [hv]; simp [go_sem]⟩)
 replace X := hid (X.out.trans x1); replace hM := hid (hM.out.ext x1); replace t := hid (t.out.ext x1); replace hI := hid (hI.out.ext x1)
 replace hK := hid (hK.out.ext x1); replace b14 := hid (b14.out.ext x1)
 clear o0 o1 lo0
 clear hv x1
 obtain ⟨Bb17, hBn⟩ : ∃ z, u10.heap.size = z := ⟨_, rfl⟩
 rw [hBn] at b17 ⊢
 clear hBn
 refine (hLk.out _ _ _ hK.out).mono ?_; rintro e u12 ⟨rfl, hE⟩
 replace X := hid (X.out.trans hE); replace hM := hid (hM.out.ext hE); replace t := hid (t.out.ext hE); replace hI := hid (hI.out.ext hE)
 replace hK := hid (hK.out.ext hE); replace b14 := hid (b14.out.ext hE); replace b17 := hid (b17.out.ext hE)
 clear hE
 go_upto_region 11 with (fail)
 refine name_wp (fun v13 hv => ?_)
 have x1 : Ext u12 v13 := by rw [hv]; exact exE
 have b20 := hid (show C2 v13 u12.heap.size (N3) (D3) from ⟨by rw [hv]; simp [go_sem], by rw [hv]; simp [go_sem]⟩)
 replace X := hid (X.out.trans x1); replace hM := hid (hM.out.ext x1); replace t := hid (t.out.ext x1); replace hI := hid (hI.out.ext x1)
 replace hK := hid (hK.out.ext x1); replace b14 := hid (b14.out.ext x1); replace b17 := hid (b17.out.ext x1)
 clear hv x1
 obtain ⟨Bb20, hBn⟩ : ∃ z, u12.heap.size = z := ⟨_, rfl⟩
 rw [hBn] at b20 ⊢
 clear hBn
 refine wp_mono (stY11 hcc.out b14.out.1 b14.out.2 b17.out.1 b17.out.2 b20.out.1 b20.out.2) ?_
 rintro e a' v92 ⟨rfl, oQ', oR', oS', oT', oU', oV', oW', oX', oY', oZ', qA', qB', qC', qD', qE', qF', qG', qH', qI', qJ', qK', qL', qM', qN', qO', qP', qQ', qR', qS', qT', qU', qV', qW', rfl, x⟩
 replace X := hid (X.out.trans x); replace hM := hid (hM.out.ext x); replace t := hid (t.out.ext x); replace hI := hid (hI.out.ext x)
 replace hK := hid (hK.out.ext x); replace b14 := hid (b14.out.ext x); replace b17 := hid (b17.out.ext x); replace b20 := hid (b20.out.ext x)
 clear x
 go_wp2_with fail
 refine (works_any _).mono ?_; rintro e w9 ⟨rfl, hE9⟩
 have X9 := hid (X.out.trans (show Ext v92 w9 from exE))
 go_wp2_with fail
 go_ret
 exact ⟨rfl, X9.out⟩
end Go.Proofs.Ytpnfhcnnodolbaa
