/- Texts of one proof, laid together: Leq, Min, Lbd, Lls, Knp, Llt. -/
import Derived.Test.YtpnfhcnnodolbaaZMoreA38
import Derived.Test.YtpnfhcnnodolbaaZY26
import Derived.Test.YtpnfhcnnodolbaaZY10
import Derived.Test.YtpnfhcnnodolbaaZY7
import Derived.Test.YtpnfhcnnodolbaaZY2
import Derived.Test.YtpnfhcnnodolbaaZMoreA34
import Derived.Test.YtpnfhcnnodolbaaZY25
import Derived.Test.YtpnfhcnnodolbaaZY11
import Derived.Test.YtpnfhcnnodolbaaZY4
import Derived.Test.YtpnfhcnnodolbaaZY18
import Derived.Test.YtpnfhcnnodolbaaZY17
import Derived.Test.YtpnfhcnnodolbaaZY16
import Derived.Test.YtpnfhcnnodolbaaZY8
import Derived.Test.YtpnfhcnnodolbaaZMoreA35
import Derived.Test.YtpnfhcnnodolbaaZY12
import Derived.Test.YtpnfhcnnodolbaaZY3
import Derived.Test.YtpnfhcnnodolbaaZMoreA36
import Derived.Test.YtpnfhcnnodolbaaZY22
import Derived.Test.YtpnfhcnnodolbaaZY20
import Derived.Test.YtpnfhcnnodolbaaZY21
import Derived.Test.YtpnfhcnnodolbaaZY9
import Derived.Test.YtpnfhcnnodolbaaZY5
import Derived.Test.YtpnfhcnnodolbaaZY13
import Derived.Test.YtpnfhcnnodolbaaZY19
import Derived.Test.YtpnfhcnnodolbaaZY1
import Derived.Test.YtpnfhcnnodolbaaZY30
import Derived.Test.YtpnfhcnnodolbaaZY28
import Derived.Test.YtpnfhcnnodolbaaZY23
import Derived.Test.YtpnfhcnnodolbaaZY14
import Derived.Test.YtpnfhcnnodolbaaZY27
import Derived.Test.YtpnfhcnnodolbaaZY6
set_option linter.unusedVariables false
set_option linter.unusedSimpArgs false
set_option linter.unusedSectionVars false
set_option linter.unnecessarySimpa false
set_option maxRecDepth 100000
namespace Go.Proofs.Ytpnfhcnnodolbaa
open Go Go.RowKit Game
theorem bstN_best {lt : Nat → Nat → Bool} {n : Nat} (irr : ∀ i, i < n → lt i i = false) (tr : ∀ i j k, i < n → j < n → k < n → lt i j = true → lt j k = true → lt i k = true) :
 ∀ k, k < n → ∀ j, j ≤ k → lt j (bstN lt k) = false
 | 0, h0, j, hj => by obtain rfl : j = 0 := by omega
                      exact irr 0 h0
 | k + 1, hk, j, hj => by
  have ih := bstN_best irr tr k (by omega)
  have hle := bstN_le lt k
  simp only [bstN]
  by_cases g : lt (k + 1) (bstN lt k) = true
  ·rw [if_pos g]
   by_cases e : j = k + 1
   ·subst e; exact irr _ hk
   ·rw [Bool.eq_false_iff]
    intro h
    have := tr j (k + 1) (bstN lt k) (by omega) hk (by omega) h g
    rw [ih j (by omega)] at this
    cases this
  ·rw [if_neg g]
   by_cases e : j = k + 1
   ·subst e; exact (Bool.eq_false_iff).2 g
   ·exact ih j (by omega)
theorem ltC_iff {l : List Met} {x y : List Int} (hx : Xok l x) (hy : Xok l y) : ltC l x y = decide (costN l x l.length * psum y < costN l y l.length * psum x) := rat_lt hx.pos hy.pos
theorem lt_trans3 {a b c p q r : Int} (hp : 0 < p) (hq : 0 < q) (hr : 0 < r) (h1 : a * q < b * p) (h2 : b * r < c * q) : a * r < c * p := by
 have e1 := Int.mul_lt_mul_of_pos_right h1 hr
 have e2 := Int.mul_lt_mul_of_pos_right h2 hp
 refine Int.lt_of_mul_lt_mul_right (a := q) ?_ (by omega)
 rw [show a * r * q = a * q * r by grind, show c * p * q = c * q * p by grind]
 rw [show b * p * r = b * r * p by grind] at e1
 exact Int.lt_trans e1 e2
theorem best_min {l : List Met} {L : List (List Int)} (hL : ∀ x ∈ L, Xok l x) (h0 : 0 < L.length) {y : List Int} (hy : y ∈ L) :
 ltC l y (row L (bstN (fun i j => ltC l (row L i) (row L j)) (L.length - 1))) = false := by
 have ok : ∀ i, i < L.length → Xok l (row L i) := fun i hi => hL _ (by rw [row_lt hi]; exact List.getElem_mem hi)
 obtain ⟨j, hj, e⟩ := List.getElem_of_mem hy
 have := bstN_best (lt := fun i j => ltC l (row L i) (row L j)) (n := L.length)
  (fun i hi => by rw [ltC_iff (ok i hi) (ok i hi), decide_eq_false_iff_not]; omega)
  (fun a b d ha hb hd h1 h2 => by
   rw [ltC_iff (ok a ha) (ok b hb), decide_eq_true_eq] at h1
   rw [ltC_iff (ok b hb) (ok d hd), decide_eq_true_eq] at h2
   rw [ltC_iff (ok a ha) (ok d hd), decide_eq_true_eq]
   exact lt_trans3 (ok a ha).pos (ok b hb).pos (ok d hd).pos h1 h2) (L.length - 1) (by omega) j (by omega)
 rw [← e, ← row_lt hj]
 exact this
theorem edges_zero {l : List Met} (v : VldM l) {u c : Int} (hu : 0 ≤ u ∧ u ≤ 1000) (hc : 0 ≤ c ∧ c ≤ 1000) (s : Bool) : (edP l u c s).length = 0 ↔ (edg l u c s).length = 0 := by
 constructor
 ·intro h
  have h1 := List.eq_nil_of_length_eq_zero h
  refine Classical.byContradiction fun g => ?_
  have := edg_sub v hu hc (s := s) (List.getElem_mem (show 0 < (edg l u c s).length by omega))
  rw [h1] at this; simp at this
 ·intro h
  have h1 := List.eq_nil_of_length_eq_zero h
  refine Classical.byContradiction fun g => ?_
  have := edP_sub v hu hc (s := s) (List.getElem_mem (show 0 < (edP l u c s).length by omega))
  rw [h1] at this; simp at this
theorem che_eq (l : List Met) (u c : Int) (s : Bool) : cheE l u c s = lrE l u c s := by
 unfold cheE lrE
 by_cases g : ¬ chkB l u c = 0
 ·rw [if_pos g, if_pos g]
 ·rw [if_neg g, if_neg g]
  obtain ⟨v, hu, hc⟩ := chkB_ok (Decidable.not_not.1 g)
  have := edges_zero v hu hc s
  by_cases h : (edP l u c s).length = 0
  ·rw [if_pos h, if_pos (this.1 h)]
  ·rw [if_neg h, if_neg (fun h' => h (this.2 h'))]
def exT (l : List Met) (u c : Int) (s : Bool) (i j : Nat) : Int := if j = 0 then - exA l u c s i else - exC l u c s i
structure Gx (l : List Met) (u c : Int) (s : Bool) (x : List Int) : Prop where
 len : x.length = l.length
 nn : ∀ i, 0 ≤ nth x i
 ps : 0 < psum x
 gd : isG l u c s x = true
theorem exT_sum {l : List Met} (u c : Int) (s : Bool) {x : List Int} (hl : x.length = l.length) :
 ag (exT l u c s) l.length (nth x) 0 = u * psum x - ledN l s x l.length ∧ ag (exT l u c s) l.length (nth x) 1 = copN l s x l.length - c * psum x := by
 constructor
 ·have e : ag (exT l u c s) l.length (nth x) 0 = sm l.length (fun i => u * nth x i + (-1) * (nth x i * badL (mtl l i) s)) := sm_congr fun i _ => by simp [exT, exA, spr]; grind
  rw [e, sm_lin (x := nth x) (z := fun i => nth x i * badL (mtl l i) s)]
  unfold ledN psum; rw [hl]; omega
 ·have e : ag (exT l u c s) l.length (nth x) 1 = sm l.length (fun i => (-c) * nth x i + 1 * (nth x i * goodC (mtl l i) s)) := sm_congr fun i _ => by simp [exT, exC, spr]; grind
  rw [e, sm_lin (x := nth x) (z := fun i => nth x i * goodC (mtl l i) s)]
  unfold copN psum; rw [hl, Int.neg_mul]; omega
theorem isG_iff {l : List Met} {u c : Int} {s : Bool} {x : List Int} (hl : x.length = l.length) : isG l u c s x = true ↔ Al (exT l u c s) l.length 2 (nth x) := by
 obtain ⟨a, b⟩ := exT_sum u c s hl
 unfold isG Al
 rw [Bool.and_eq_true, decide_eq_true_eq, decide_eq_true_eq]
 constructor
 ·intro h j hj
  obtain rfl | rfl : j = 0 ∨ j = 1 := by omega
  ·omega
  ·omega
 ·intro h
  have h0 := h 0 (by omega)
  have h1 := h 1 (by omega)
  omega
theorem ab_abs (p : Int) : ab p = absI p := by unfold ab absI; split <;> split <;> omega
theorem sgn2_of {a0 a1 : Int} (h : Gd [a0, a1]) : ((0 ≤ a0 ∧ 0 ≤ a1) ∨ (a0 ≤ 0 ∧ a1 ≤ 0)) ∧ (a0 ≠ 0 ∨ a1 ≠ 0) := by
 obtain ⟨⟨a, ha, hne⟩, hno⟩ := h
 constructor
 ·refine Classical.byContradiction fun hc => hno ?_
  have h1 : a0 < 0 ∨ a1 < 0 := by omega
  have h2 : 0 < a0 ∨ 0 < a1 := by omega
  exact ⟨h1.elim (fun h => ⟨a0, by simp, h⟩) (fun h => ⟨a1, by simp, h⟩), h2.elim (fun h => ⟨a0, by simp, h⟩) (fun h => ⟨a1, by simp, h⟩)⟩
 ·simp at ha; rcases ha with rfl | rfl
  ·exact .inl hne
  ·exact .inr hne
theorem sgn3_of {a0 a1 a2 : Int} (h : Gd [a0, a1, a2]) : ((0 ≤ a0 ∧ 0 ≤ a1 ∧ 0 ≤ a2) ∨ (a0 ≤ 0 ∧ a1 ≤ 0 ∧ a2 ≤ 0)) ∧ (a0 ≠ 0 ∨ a1 ≠ 0 ∨ a2 ≠ 0) := by
 obtain ⟨⟨a, ha, hne⟩, hno⟩ := h
 constructor
 ·refine Classical.byContradiction fun hc => hno ?_
  have h1 : a0 < 0 ∨ a1 < 0 ∨ a2 < 0 := by omega
  have h2 : 0 < a0 ∨ 0 < a1 ∨ 0 < a2 := by omega
  refine ⟨?_, ?_⟩
  ·rcases h1 with h | h | h
   ·exact ⟨a0, by simp, h⟩
   ·exact ⟨a1, by simp, h⟩
   ·exact ⟨a2, by simp, h⟩
  ·rcases h2 with h | h | h
   ·exact ⟨a0, by simp, h⟩
   ·exact ⟨a1, by simp, h⟩
   ·exact ⟨a2, by simp, h⟩
 ·simp at ha; rcases ha with rfl | rfl | rfl
  ·exact .inl hne
  ·exact .inr (.inl hne)
  ·exact .inr (.inr hne)
theorem sgnP2 {p0 p1 : Int} (h : (0 ≤ p0 ∧ 0 ≤ p1) ∨ (p0 ≤ 0 ∧ p1 ≤ 0)) (h2 : p0 ≠ 0 ∨ p1 ≠ 0) : SgnP 2 (nth [p0, p1]) := by
 refine ⟨?_, ?_⟩
 ·rcases h with h | h
  ·exact .inl (two_cases h.1 h.2)
  ·exact .inr (two_cases h.1 h.2)
 ·rcases h2 with h | h
  ·exact ⟨0, by omega, h⟩
  ·exact ⟨1, by omega, h⟩
theorem sgnP3 {p0 p1 p2 : Int} (h : (0 ≤ p0 ∧ 0 ≤ p1 ∧ 0 ≤ p2) ∨ (p0 ≤ 0 ∧ p1 ≤ 0 ∧ p2 ≤ 0)) (h2 : p0 ≠ 0 ∨ p1 ≠ 0 ∨ p2 ≠ 0) : SgnP 3 (nth [p0, p1, p2]) := by
 refine ⟨?_, ?_⟩
 ·rcases h with h | h
  ·exact .inl (three_cases h.1 h.2.1 h.2.2)
  ·exact .inr (three_cases h.1 h.2.1 h.2.2)
 ·rcases h2 with h | h | h
  ·exact ⟨0, by omega, h⟩
  ·exact ⟨1, by omega, h⟩
  ·exact ⟨2, by omega, h⟩
theorem put_eq {n : Nat} {t : List Nat} {p : List Int} (n1 : 1 ≤ n) (hs : SgnP p.length (nth p)) (ht : ∀ k, k < p.length → t.getD k 0 < n) (hd : ∀ j k, j < k → k < p.length → t.getD j 0 ≠ t.getD k 0)
 (e : Nat → Int) (h1 : ∀ k, k < p.length → e (t.getD k 0) = absI (nth p k)) (h2 : ∀ i, (∀ k, k < p.length → t.getD k 0 ≠ i) → e i = 0) : mkL n e = putL n t p := by
 have hl := (putL_iff (t := t) n1).2 hs
 refine list_ext_nth (by rw [mkL_len, hl]) fun i hi => ?_
 rw [mkL_len] at hi
 rw [mkL_nth _ hi, (putL_out n1 hl).1]
 by_cases g : ∃ k, k < p.length ∧ t.getD k 0 = i
 ·obtain ⟨k, hk, rfl⟩ := g
  rw [out_at ht hd _ (Nat.le_refl _) k hk, h1 k hk]
 ·have h3 : ∀ k, k < p.length → t.getD k 0 ≠ i := fun k hk e => g ⟨k, hk, e⟩
  rw [out_else h3 _ (Nat.le_refl _), h2 i h3]
theorem edge_in {l : List Met} (v : VldM l) {u c : Int} {s : Bool} {e : Nat → Int} (he : EdgeA (exT l u c s) l.length e) (hA : Al (exT l u c s) l.length 2 e) : mkL l.length e ∈ edg l u c s := by
 have n1 := v.n1
 have hg : isG l u c s (mkL l.length e) = true := by
  rw [isG_iff (mkL_len _ _)]
  intro j hj
  have := hA j hj
  rw [show ag (exT l u c s) l.length (nth (mkL l.length e)) j = ag (exT l u c s) l.length e j from sm_congr fun i hi => by rw [mkL_nth _ hi]]
  exact this
 refine edg_in ?_ (mkL_len _ _) hg
 rcases he with ⟨a, ha, rfl⟩ | ⟨a, b, j, hab, hb, hj, hGd, rfl⟩ | ⟨a, b, d, hab, hbd, hd, hGd, rfl⟩
 ·refine .inl ⟨a, ha, put_eq n1 (by refine ⟨.inl fun k hk => ?_, 0, by simp, by decide⟩; (have : k = 0 := by simpa using hk); subst this; decide) (fun k hk => ?_) (fun j k hjk hk => ?_) _ (fun k hk => ?_) (fun i hi => ?_)⟩
  ·have : k = 0 := by simpa using hk
   subst this; simpa using ha
  ·simp at hk; omega
  ·have : k = 0 := by simpa using hk
   subst this; simp [put, ab, absI, nth]
  ·have := hi 0 (by simp)
   simp only [List.getD_cons_zero] at this
   simp only [List.map, put, if_neg (Ne.symm this)]
 ·obtain ⟨h1, h2⟩ := sgn2_of hGd
  have hne : ¬ b = a := by omega
  have main : ∀ X : Nat → Int, (∀ i, exT l u c s i j = - X i) → mkL l.length (put [a, b] ([exT l u c s b j, - exT l u c s a j].map ab)) = putL l.length [b, a] [X a, - X b] := fun X hX => by
   rw [hX, hX] at h1 h2 ⊢
   refine put_eq (p := [X a, - X b]) n1 (sgnP2 (by omega) (by omega)) (fun k hk => ?_) (fun j k hjk hk => ?_) _ (fun k hk => ?_) (fun i hi => ?_)
   ·rcases k with _ | _ | k <;> simp at hk ⊢ <;> omega
   ·rcases k with _ | _ | k
    ·omega
    ·obtain rfl : j = 0 := by omega
     simp; omega
    ·simp at hk; omega
   ·rcases k with _ | _ | k
    ·simp only [List.getD_cons_zero, List.map, put, if_neg hne, if_true, nth_zero, ab_abs, Int.neg_neg]
    ·simp only [List.getD_cons_zero, List.getD_cons_succ, List.map, put, if_true, nth_succ, nth_zero, ab_abs]
    ·simp at hk; omega
   ·have i0 := hi 0 (by simp)
    have i1 := hi 1 (by simp)
    simp only [List.getD_cons_zero, List.getD_cons_succ] at i0 i1
    simp only [List.map, put, if_neg (Ne.symm i1), if_neg (Ne.symm i0)]
  refine .inr (.inl ⟨b, a, hab, hb, ?_⟩)
  obtain rfl | rfl : j = 0 ∨ j = 1 := by omega
  ·exact .inl (main (exA l u c s) fun i => by simp [exT])
  ·exact .inr (main (exC l u c s) fun i => by simp [exT])
 ·obtain ⟨h1, h2⟩ := sgn3_of hGd
  have hba : ¬ b = a := by omega
  have hda : ¬ d = a := by omega
  have hdb : ¬ d = b := by omega
  refine .inr (.inr ⟨d, b, a, hab, hbd, hd, ?_⟩)
  have hX : ∀ i, exT l u c s i 0 = - exA l u c s i := fun i => by simp [exT]
  have hY : ∀ i, exT l u c s i 1 = - exC l u c s i := fun i => by simp [exT]
  generalize hp0 : exT l u c s b 0 * exT l u c s d 1 - exT l u c s b 1 * exT l u c s d 0 = g0 at h1 h2 ⊢
  generalize hp1 : exT l u c s d 0 * exT l u c s a 1 - exT l u c s d 1 * exT l u c s a 0 = g1 at h1 h2 ⊢
  generalize hp2 : exT l u c s a 0 * exT l u c s b 1 - exT l u c s a 1 * exT l u c s b 0 = g2 at h1 h2 ⊢
  rw [hX, hX, hY, hY] at hp0 hp1 hp2
  have q0 : exA l u c s b * exC l u c s a - exC l u c s b * exA l u c s a = - g2 := by grind
  have q1 : exA l u c s a * exC l u c s d - exC l u c s a * exA l u c s d = - g1 := by grind
  have q2 : exA l u c s d * exC l u c s b - exC l u c s d * exA l u c s b = - g0 := by grind
  rw [q0, q1, q2]
  refine put_eq (p := [- g2, - g1, - g0]) n1 (sgnP3 (by omega) (by omega)) (fun k hk => ?_) (fun j k hjk hk => ?_) _ (fun k hk => ?_) (fun i hi => ?_)
  ·rcases k with _ | _ | _ | k <;> simp at hk ⊢ <;> omega
  ·rcases k with _ | _ | _ | k
   ·omega
   ·obtain rfl : j = 0 := by omega
    simp; omega
   ·have : j = 0 ∨ j = 1 := by omega
    rcases this with rfl | rfl <;> simp <;> omega
   ·simp at hk; omega
  ·rcases k with _ | _ | _ | k
   ·simp only [List.getD_cons_zero, List.map, put, if_neg hda, if_neg hdb, if_true, nth_zero, ab_abs, absI_neg]
   ·simp only [List.getD_cons_zero, List.getD_cons_succ, List.map, put, if_neg hba, if_true, nth_succ, nth_zero, ab_abs, absI_neg]
   ·simp only [List.getD_cons_zero, List.getD_cons_succ, List.map, put, if_true, nth_succ, nth_zero, ab_abs, absI_neg]
   ·simp at hk; omega
  ·have i0 := hi 0 (by simp)
   have i1 := hi 1 (by simp)
   have i2 := hi 2 (by simp)
   simp only [List.getD_cons_zero, List.getD_cons_succ] at i0 i1 i2
   simp only [List.map, put, if_neg (Ne.symm i2), if_neg (Ne.symm i1), if_neg (Ne.symm i0)]
def fsm (l : List Met) (f : Nat → Int) (x : List Int) : Int := sm l.length fun i => nth x i * f i
theorem edge_min {l : List Met} (v : VldM l) {u c : Int} {s : Bool} (f : Nat → Int) {x : List Int} (g : Gx l u c s x) : ∃ y, y ∈ edg l u c s ∧ fsm l f y * psum x ≤ fsm l f x * psum y := by
 have hx : Pl l.length (nth x) := ⟨fun i _ => g.nn i, by have := g.ps; unfold psum at this; rw [g.len] at this; exact this⟩
 obtain ⟨e, he, hp, hA, hle⟩ := edge_le f hx ((isG_iff g.len).1 g.gd)
 refine ⟨mkL l.length e, edge_in v he hA, ?_⟩
 have e1 : fsm l f (mkL l.length e) = co f l.length e := sm_congr fun i hi => by rw [mkL_nth _ hi]
 have e2 : psum (mkL l.length e) = sm l.length e := by unfold psum; rw [mkL_len]; exact sm_congr fun i hi => by rw [mkL_nth _ hi]
 have e3 : psum x = sm l.length (nth x) := by unfold psum; rw [g.len]
 rw [e1, e2, e3]
 exact hle
theorem edg_gx {l : List Met} (v : VldM l) {u c : Int} (hu : 0 ≤ u ∧ u ≤ 1000) (hc : 0 ≤ c ∧ c ≤ 1000) {s : Bool} {x : List Int} (h : x ∈ edg l u c s) : Gx l u c s x := by
 obtain ⟨a, b, _⟩ := edg_ok v hu hc h
 exact ⟨a.len, fun i => (a.prt i).1, a.pos, b⟩
theorem gx_che {l : List Met} {u c : Int} (hB : chkB l u c = 0) (s : Bool) : cheE l u c s = 0 ↔ ∃ x, Gx l u c s x := by
 obtain ⟨v, hu, hc⟩ := chkB_ok hB
 rw [che_eq]
 unfold lrE
 rw [if_neg (fun h => h hB)]
 constructor
 ·intro h
  have h0 : 0 < (edg l u c s).length := by
   refine Classical.byContradiction fun g => ?_
   rw [if_pos (by omega)] at h; cases h
  exact ⟨_, edg_gx v hu hc (List.getElem_mem h0)⟩
 ·rintro ⟨x, g⟩
  obtain ⟨y, hy, _⟩ := edge_min v (fun _ => 0) g
  have : (edg l u c s).length ≠ 0 := fun e => by
   have := List.eq_nil_of_length_eq_zero e
   rw [this] at hy; simp at hy
  rw [if_neg this]
theorem che_two {l : List Met} {u c : Int} (hB : chkB l u c = 0) (s : Bool) : cheE l u c s = 0 ∨ cheE l u c s = 17 := by
 unfold cheE
 rw [if_neg (fun h => h hB)]
 split
 ·exact .inr rfl
 ·exact .inl rfl
theorem che_pos {l : List Met} {u c : Int} (hB : chkB l u c = 0) {s : Bool} (h : cheE l u c s = 0) : 0 < (edP l u c s).length := by
 refine Classical.byContradiction fun g => ?_
 unfold cheE at h
 rw [if_neg (fun h' => h' hB), if_pos (by omega)] at h; cases h
theorem chp_gx {l : List Met} {u c : Int} (hB : chkB l u c = 0) {s : Bool} (h : cheE l u c s = 0) : Gx l u c s (chpL l u c s) ∧ chpL l u c s ∈ edg l u c s := by
 obtain ⟨v, hu, hc⟩ := chkB_ok hB
 have := edP_sub v hu hc (chp_mem (che_pos hB h))
 exact ⟨edg_gx v hu hc this, this⟩
theorem chp_le {l : List Met} {u c : Int} (hB : chkB l u c = 0) {s : Bool} (h : cheE l u c s = 0) {x : List Int} (g : Gx l u c s x) :
 costN l (chpL l u c s) l.length * psum x ≤ costN l x l.length * psum (chpL l u c s) := by
 obtain ⟨v, hu, hc⟩ := chkB_ok hB
 obtain ⟨y, hy, hle⟩ := edge_min v (fun i => (mtl l i).p) g
 have o := edP_ok v hu hc (chp_mem (che_pos hB h))
 have oy := edg_ok v hu hc hy
 have m := best_min (fun x hx => (edP_ok v hu hc hx).1) (che_pos hB h) (edg_sub v hu hc hy)
 change ltC l y (chpL l u c s) = false at m
 rw [ltC_iff oy.1 o.1, decide_eq_false_iff_not] at m
 change costN l y l.length * psum x ≤ costN l x l.length * psum y at hle
 refine ratio_trans oy.1.pos o.1.pos g.ps (c := costN l y l.length) ?_ hle
 omega
theorem mle {p q B : Int} (hp : 0 ≤ p) (hq : q ≤ B) : p * q ≤ B * p := by
 have := Int.mul_le_mul_of_nonneg_left hq hp
 rw [Int.mul_comm B p]; exact this
theorem cross_le {u c a1 b1 a2 b2 : Int} (hu : 0 ≤ u ∧ u ≤ 1000) (hc : 0 ≤ c ∧ c ≤ 1000) (h1 : -u ≤ a1 ∧ a1 ≤ 1000 - u) (h2 : -u ≤ b1 ∧ b1 ≤ 1000 - u) (h3 : c - 1000 ≤ a2 ∧ a2 ≤ c) (h4 : c - 1000 ≤ b2 ∧ b2 ≤ c) : a1 * b2 - a2 * b1 ≤ 1000000 := by
 have n1 : ∀ p q : Int, 0 ≤ p → q ≤ 0 → p * q ≤ 0 := fun p q hp hq => Int.mul_nonpos_of_nonneg_of_nonpos hp hq
 have n2 : ∀ p q : Int, 0 ≤ p → 0 ≤ q → 0 ≤ p * q := fun p q hp hq => Int.mul_nonneg hp hq
 rcases Int.le_total 0 a1 with s1 | s1 <;> rcases Int.le_total 0 b2 with s4 | s4 <;> rcases Int.le_total 0 a2 with s3 | s3 <;> rcases Int.le_total 0 b1 with s2 | s2
 ·have := n2 _ _ s3 s2; have := mle (B := 1000) s1 (show b2 ≤ 1000 by omega); omega
 ·have e : a2 * b1 = - (-b1 * a2) := by grind
  have := mle (B := 1000) s1 (show b2 ≤ 1000 by omega); have := mle (B := 1000) (show 0 ≤ -b1 by omega) (show a2 ≤ 1000 by omega); omega
 ·have e : a2 * b1 = - (-a2 * b1) := by grind
  have e2 : a1 * b2 = b2 * a1 := by grind
  have := mle (B := 1000) s4 (show a1 ≤ 1000 by omega); have := mle (B := 1000) (show 0 ≤ -a2 by omega) (show b1 ≤ 1000 by omega); omega
 ·have e : a2 * b1 = (-a2) * (-b1) := by grind
  have := n2 (-a2) (-b1) (by omega) (by omega); have := mle (B := 1000) s1 (show b2 ≤ 1000 by omega); omega
 ·have := n1 _ _ s1 s4; have := n2 _ _ s3 s2; omega
 ·have e : a2 * b1 = - (-b1 * a2) := by grind
  have := n1 _ _ s1 s4; have := mle (B := 1000) (show 0 ≤ -b1 by omega) (show a2 ≤ 1000 by omega); omega
 ·have e : a2 * b1 = - (-a2 * b1) := by grind
  have := n1 _ _ s1 s4; have := mle (B := 1000) (show 0 ≤ -a2 by omega) (show b1 ≤ 1000 by omega); omega
 ·have e : a2 * b1 = (-a2) * (-b1) := by grind
  have := n1 _ _ s1 s4; have := n2 (-a2) (-b1) (by omega) (by omega); omega
 ·have e2 : a1 * b2 = b2 * a1 := by grind
  have := n1 _ _ s4 s1; have := n2 _ _ s3 s2; omega
 ·have e2 : a1 * b2 = b2 * a1 := by grind
  have e : a2 * b1 = - (-b1 * a2) := by grind
  have := n1 _ _ s4 s1; have := mle (B := 1000) (show 0 ≤ -b1 by omega) (show a2 ≤ 1000 by omega); omega
 ·have e2 : a1 * b2 = b2 * a1 := by grind
  have e : a2 * b1 = - (-a2 * b1) := by grind
  have := n1 _ _ s4 s1; have := mle (B := 1000) (show 0 ≤ -a2 by omega) (show b1 ≤ 1000 by omega); omega
 ·have e2 : a1 * b2 = b2 * a1 := by grind
  have e : a2 * b1 = (-a2) * (-b1) := by grind
  have := n1 _ _ s4 s1; have := n2 (-a2) (-b1) (by omega) (by omega); omega
 ·have e2 : a1 * b2 = (-a1) * (-b2) := by grind
  have := n2 _ _ s3 s2; have := mle (B := 1000) (show 0 ≤ -a1 by omega) (show -b2 ≤ 1000 by omega); omega
 ·have e2 : a1 * b2 = (-b2) * (-a1) := by grind
  have e : a2 * b1 = - (a2 * -b1) := by grind
  have := mle (B := 1000) (show 0 ≤ -b2 by omega) (show -a1 ≤ 1000 by omega); have := mle (B := 1000) s3 (show -b1 ≤ 1000 by omega); omega
 ·have e2 : a1 * b2 = (-a1) * (-b2) := by grind
  have e : a2 * b1 = - (b1 * -a2) := by grind
  have := mle (B := 1000) (show 0 ≤ -a1 by omega) (show -b2 ≤ 1000 by omega); have := mle (B := 1000) s2 (show -a2 ≤ 1000 by omega); omega
 ·have e2 : a1 * b2 = (-a1) * (-b2) := by grind
  have e : a2 * b1 = (-a2) * (-b1) := by grind
  have := n2 (-a2) (-b1) (by omega) (by omega); have := mle (B := 1000) (show 0 ≤ -a1 by omega) (show -b2 ≤ 1000 by omega); omega
theorem absI_le {x B : Int} (h1 : x ≤ B) (h2 : -x ≤ B) : absI x ≤ B := by unfold absI; split <;> omega
theorem out_le {n : Nat} {t : List Nat} {p : List Int} {B : Int} (hB : 0 ≤ B) (h : ∀ k, k < p.length → absI (nth p k) ≤ B) (i : Nat) : ∀ K, K ≤ p.length → nth (outN n t p K) i ≤ B
 | 0, _ => by
  have : nth (outN n t p 0) i = 0 := by simp [outN, nth, List.getElem?_replicate]; split <;> rfl
  omega
 | K + 1, hK => by
  simp only [outN]
  rw [nth_set_]
  split
  ·exact h K (by omega)
  ·exact out_le hB h i K (by omega)
theorem putL_le {n : Nat} {t : List Nat} {p : List Int} {B : Int} (n1 : 1 ≤ n) (hl : (putL n t p).length = n) (hB : 0 ≤ B) (h : ∀ k, k < p.length → absI (nth p k) ≤ B) (i : Nat) : nth (putL n t p) i ≤ B := by
 rw [(putL_out n1 hl).1]
 exact out_le hB h i _ (Nat.le_refl _)
theorem exA_rg {l : List Met} (v : VldM l) (u c : Int) (s : Bool) (i : Nat) : -u ≤ exA l u c s i ∧ exA l u c s i ≤ 1000 - u := by
 have := badL_bd v s i
 have e : exA l u c s i = badL (mtl l i) s - u := by simp [exA, spr]
 omega
theorem exC_rg {l : List Met} (v : VldM l) (u c : Int) (s : Bool) (i : Nat) : c - 1000 ≤ exC l u c s i ∧ exC l u c s i ≤ c := by
 have := goodC_bd v s i
 have e : exC l u c s i = c - goodC (mtl l i) s := by simp [exC, spr]
 omega
theorem edg_le {l : List Met} (v : VldM l) {u c : Int} (hu : 0 ≤ u ∧ u ≤ 1000) (hc : 0 ≤ c ∧ c ≤ 1000) {s : Bool} {x : List Int} (h : x ∈ edg l u c s) (i : Nat) : nth x i ≤ 1000000 := by
 obtain ⟨ok, _, hF⟩ := edg_ok v hu hc h
 have hA := exA_rg v u c s
 have hC := exC_rg v u c s
 have hl := ok.len
 rcases hF with ⟨q, hq, rfl⟩ | ⟨b, a, hab, hb, rfl | rfl⟩ | ⟨d, b, a, hab, hbd, hd, rfl⟩
 ·refine putL_le (B := 1000000) v.n1 hl (by decide) (fun k hk => ?_) i
  obtain rfl : k = 0 := by simpa using hk
  decide
 ·refine putL_le (B := 1000000) v.n1 hl (by decide) (two_cases ?_ ?_) i
  ·have := hA a; exact absI_le (by show exA l u c s a ≤ _; omega) (by show - exA l u c s a ≤ _; omega)
  ·have := hA b; exact absI_le (by show - exA l u c s b ≤ _; omega) (by show - - exA l u c s b ≤ _; omega)
 ·refine putL_le (B := 1000000) v.n1 hl (by decide) (two_cases ?_ ?_) i
  ·have := hC a; exact absI_le (by show exC l u c s a ≤ _; omega) (by show - exC l u c s a ≤ _; omega)
  ·have := hC b; exact absI_le (by show - exC l u c s b ≤ _; omega) (by show - - exC l u c s b ≤ _; omega)
 ·have cr : ∀ p q, absI (exA l u c s p * exC l u c s q - exC l u c s p * exA l u c s q) ≤ 1000000 := fun p q => by
   have h1 := cross_le hu hc (hA p) (hA q) (hC p) (hC q)
   have h2 := cross_le hu hc (hA q) (hA p) (hC q) (hC p)
   refine absI_le h1 ?_
   rw [show -(exA l u c s p * exC l u c s q - exC l u c s p * exA l u c s q) = exA l u c s q * exC l u c s p - exC l u c s q * exA l u c s p by grind]
   exact h2
  exact putL_le (B := 1000000) v.n1 hl (by decide) (three_cases (cr b a) (cr a d) (cr d b)) i
theorem edg_vld {l : List Met} (v : VldM l) {u c : Int} (hu : 0 ≤ u ∧ u ≤ 1000) (hc : 0 ≤ c ∧ c ≤ 1000) {s : Bool} {x : List Int} (h : x ∈ edg l u c s) : VldX x l.length :=
 let ok := (edg_ok v hu hc h).1
 ⟨ok.len, fun i => (ok.prt i).1, edg_le v hu hc h, ok.pos⟩
theorem lst_zero (l : List Met) (u c : Int) (s : Bool) (h : ¬ cheE l u c s = 0) : lstN l u c s = 0 ∧ lstD l u c s = 0 := by
 unfold lstN lstD
 rw [if_neg h, if_neg h]
 exact ⟨rfl, rfl⟩
theorem chp_vld {l : List Met} {u c : Int} (hB : chkB l u c = 0) {s : Bool} (h : cheE l u c s = 0) : VldX (chpL l u c s) l.length ∧ psum (chpL l u c s) ≤ 6000000 := by
 obtain ⟨v, hu, hc⟩ := chkB_ok hB
 have vx := edg_vld v hu hc (chp_gx hB h).2
 exact ⟨vx, psum_le v.n6 vx.len vx.le vx.nn⟩
theorem lst_ok {l : List Met} {u c : Int} (hB : chkB l u c = 0) (s : Bool) (h : cheE l u c s = 0) : OkS (lstN l u c s) (lstD l u c s) := by
 obtain ⟨v, hu, hc⟩ := chkB_ok hB
 obtain ⟨vx, hp⟩ := chp_vld hB h
 unfold lstN lstD
 rw [if_pos h, if_pos h]
 exact cost_small v vx hp
theorem lst_mono {l l' : List Met} {u c u' c' : Int} {s s' : Bool} (hB : chkB l u c = 0) (hB' : chkB l' u' c' = 0)
 (H : ∀ x, Gx l u c s x → ∃ y, Gx l' u' c' s' y ∧ costN l' y l'.length * psum x ≤ costN l x l.length * psum y) (h : cheE l u c s = 0) :
 cheE l' u' c' s' = 0 ∧ lessB (lstN l u c s) (lstD l u c s) (lstN l' u' c' s') (lstD l' u' c' s') = false := by
 have g := (chp_gx hB h).1
 obtain ⟨y, gy, hy⟩ := H _ g
 have h' := (gx_che hB' s').2 ⟨y, gy⟩
 refine ⟨h', ?_⟩
 have g' := (chp_gx hB' h').1
 have hle := chp_le hB' h' gy
 unfold lstN lstD
 rw [if_pos h, if_pos h, if_pos h', if_pos h']
 unfold csN csD
 rw [rat_lt g.ps g'.ps, decide_eq_false_iff_not]
 have := ratio_trans gy.ps g'.ps g.ps hle hy
 omega
theorem lst_of {l : List Met} {u c : Int} {s : Bool} (hB : chkB l u c = 0) {y : List Int} (g : Gx l u c s y) (hy : ∀ x, Gx l u c s x → costN l y l.length * psum x ≤ costN l x l.length * psum y) :
 cheE l u c s = 0 ∧ lstN l u c s = ratN (costN l y l.length) (psum y) ∧ lstD l u c s = ratD (costN l y l.length) (psum y) := by
 have h := (gx_che hB s).2 ⟨y, g⟩
 have g' := (chp_gx hB h).1
 have h1 := hy _ g'
 have h2 := chp_le hB h g
 refine ⟨h, ?_⟩
 unfold lstN lstD
 rw [if_pos h, if_pos h]
 exact rat_eq g'.ps g.ps (by omega)
def mtV (m : Met) (r : Nat) : Value := .int .i64 (if r = 0 then m.p else if r = 1 then m.ll else if r = 2 then m.lh else if r = 3 then m.cl else m.ch)
theorem elemMt : ElemG Try.prog 68 5 40 := elemG_mk (by kernel_rfl)
theorem el5 {w : World} {b : Nat} {m : Met} (h0 : w.cell? ⟨b, 0, none⟩ = some (.int .i64 m.p)) (h1 : w.cell? ⟨b, 1, none⟩ = some (.int .i64 m.ll)) (h2 : w.cell? ⟨b, 2, none⟩ = some (.int .i64 m.lh)) (h3 : w.cell? ⟨b, 3, none⟩ = some (.int .i64 m.cl)) (h4 : w.cell? ⟨b, 4, none⟩ = some (.int .i64 m.ch)) :
 ∀ i, i < 1 → ∀ r, r < 5 → w.cell? ⟨b, 0 + i * 5 + r, none⟩ = some (mtV m r) := by
 intro i hi r hr
 have e : i = 0 := by omega
 subst e
 match r, hr with
 | 0, _ => simpa [mtV] using h0
 | 1, _ => simpa [mtV] using h1
 | 2, _ => simpa [mtV] using h2
 | 3, _ => simpa [mtV] using h3
 | 4, _ => simpa [mtV] using h4
theorem mts_els {w : World} {a : Option Addr} {f : Nat → Met} {n : Nat} (h : Els w a 5 (fun i r => mtV (f i) r) n) {l : List Met} (hl : l.length = n) (hf : ∀ i, i < n → mtl l i = f i) : Mts w a l := by
 intro i hi
 obtain ⟨b, off, ha, hc⟩ := h i (by omega)
 refine ⟨b, off, ha, ?_⟩
 rw [hf i (by omega)]
 exact ⟨hc 0 (by omega), hc 1 (by omega), hc 2 (by omega), hc 3 (by omega), hc 4 (by omega)⟩
theorem mts_own {w : World} {base : Nat} {e : TypeId} {v : Value} {f : Nat → Met} {n : Nat} (h : OwnG w base e 5 v (fun i r => mtV (f i) r) n) {l : List Met} (hl : l.length = n) (hf : ∀ i, i < n → mtl l i = f i) : ∃ a cap, v = .slice a n cap ∧ Mts w a l := by
 obtain ⟨a, cap, hv, _, he⟩ := OwnG.els h
 exact ⟨a, cap, hv, mts_els he hl hf⟩
def mkM (n : Nat) (f : Nat → Met) : List Met := (List.range n).map f
theorem mkM_len (n : Nat) (f : Nat → Met) : (mkM n f).length = n := by simp [mkM]
theorem mkM_at {n : Nat} (f : Nat → Met) {i : Nat} (h : i < n) : mtl (mkM n f) i = f i := by simp [mtl, mkM, h, List.getD_eq_getElem?_getD]
theorem mk_vld {n : Nat} {f : Nat → Met} (n1 : 1 ≤ n) (n6 : n ≤ 6) (hp : ∀ i, i < n → 0 ≤ (f i).p ∧ (f i).p ≤ 1000) (hl : ∀ i, i < n → 0 ≤ (f i).ll ∧ (f i).ll ≤ (f i).lh ∧ (f i).lh ≤ 1000) (hc : ∀ i, i < n → 0 ≤ (f i).cl ∧ (f i).cl ≤ (f i).ch ∧ (f i).ch ≤ 1000) : VldM (mkM n f) := by
 have z : ∀ i, ¬ i < n → mtl (mkM n f) i = ⟨0, 0, 0, 0, 0⟩ := fun i h => mtl_ge (by rw [mkM_len]; omega)
 refine ⟨by rw [mkM_len]; exact n1, by rw [mkM_len]; exact n6, fun i => ?_, fun i => ?_, fun i => ?_⟩
 ·by_cases h : i < n
  ·rw [mkM_at f h]; exact hp i h
  ·rw [z i h]; decide
 ·by_cases h : i < n
  ·rw [mkM_at f h]; exact hl i h
  ·rw [z i h]; decide
 ·by_cases h : i < n
  ·rw [mkM_at f h]; exact hc i h
  ·rw [z i h]; decide
theorem vld_chk {l : List Met} (v : VldM l) {u c : Int} (hu : 0 ≤ u ∧ u ≤ 1000) (hc : 0 ≤ c ∧ c ≤ 1000) : chkB l u c = 0 := by
 unfold chkB
 rw [if_pos (chkM_ok.2 v)]
 unfold chkU
 rw [inR_iff.2 hu, inR_iff.2 hc]
 rfl
theorem vld_fit {l : List Met} (v : VldM l) : FitM l := fun i => by
 have a := v.pr i; have b := v.le i; have c := v.co i
 exact ⟨⟨by omega, by omega⟩, ⟨by omega, by omega⟩, ⟨by omega, by omega⟩, ⟨by omega, by omega⟩, ⟨by omega, by omega⟩⟩
set_option maxHeartbeats 4000000 in
theorem leastL_any (l : List Met) (q : FitM l) {u c : Int} (hB : chkB l u c = 0) (a : Option Addr) (cap : Nat) (iu : I64 u) (ic : I64 c) (s : Bool) (w : World) (hM : Mts w a l) :
 Calls Try.prog 44 #[.slice a l.length cap, (.agg #[.int .i64 (u), .int .i64 (c)]), .bool s] w fun e w' => e = .returned (.tuple #[(.agg #[.int .i64 (lstN l u c s), .int .i64 (lstD l u c s)]), .bool (decide (cheE l u c s = 0)), .bool true]) ∧ Ext w w' := by
 obtain ⟨v, hu, hc⟩ := chkB_ok hB
 have n6 := v.n6
 have hle := hid (fun W hW => least_any l q (by omega) a cap u c iu ic s W hW)
 have heq : ∀ (p q : Int) w, (Op.equalIn 10000 29 (.agg #[.int .i64 p, .int .i64 q]) (.agg #[.int .i64 p, .int .i64 q])).run Try.prog w = .ok true w := fun p q w => by rw [run_eqRatio]; simp
 have hz := lst_zero l u c s
 have hok := lst_ok hB s
 replace hM := hid hM
 obtain ⟨N, hN⟩ : ∃ z, lstN l u c s = z := ⟨_, rfl⟩
 obtain ⟨D, hD⟩ : ∃ z, lstD l u c s = z := ⟨_, rfl⟩
 rw [hN, hD] at hle hz hok ⊢
 rcases che_two hB s with g | g
 ·rw [g] at hle ⊢
  have k := hok g
  have hsm := hid (fun W => smallL_any N D k W)
  clear q v hu hc hB n6 hN hD hz hok k g
  go_enter Try.func44, Try.ntmps44
  go_wp2_with fail
  refine name_c (fun w0 hw0 => ?_)
  have X := hid (show Ext w w0 by rw [hw0]; exact exE)
  have rb := hid (show Bx2 w0 (w.heap.size + 1) 0 0 from ⟨by rw [hw0]; simp [go_sem], by rw [hw0]; simp [go_sem], by rw [hw0]; simp [go_sem], by rw [hw0]; simp [go_sem]⟩)
  clear hw0
  obtain ⟨B, hB⟩ : ∃ B, w.heap.size + 1 = B := ⟨_, rfl⟩
  rw [hB] at rb ⊢
  have hBB := hid (show w.heap.size ≤ B by omega)
  clear hB
  refine (hle.out _ (hM.out.ext X.out)).mono ?_; rintro e u1 ⟨rfl, hE⟩
  replace X := hid (X.out.trans hE)
  replace rb := hid (rb.out.ext hE)
  clear hE hle
  have lB := rb.out.lt
  go_upto_region 4 with (fail)
  refine name_wp (fun v1 hv => ?_)
  have x1 : Ext u1 v1 := by rw [hv]; exact exE
  have b0 : v1.cell? ⟨u1.heap.size, 0, none⟩ = some (.int .i64 N) := by rw [hv]; simp [go_sem]
  have b1 : v1.cell? ⟨u1.heap.size, 1, none⟩ = some (.int .i64 D) := by rw [hv]; simp [go_sem]
  have rb1 := rb.out.ext x1
  have xw := X.out.trans x1
  have hBl := rb.out.lt
  clear hv X x1 rb lB
  obtain ⟨C, hC⟩ : ∃ B, u1.heap.size = B := ⟨_, rfl⟩
  rw [hC] at b0 b1 hBl ⊢
  clear hC
  have hBn := hBB.out
  refine wp_mono (Q := calmS _) ?_ calmS_of
  refine wp_region_held_drew (S := fun w' => Ext w w' ∧ w'.cell? ⟨C, 0, none⟩ = some (.int .i64 N) ∧ w'.cell? ⟨C, 1, none⟩ = some (.int .i64 D)) (by kernel_rfl) ⟨xw.trans exE, (show Ext v1 _ from exE).cell b0, (show Ext v1 _ from exE).cell b1⟩ fun hHeld => ?_
  (refine tkA (i := 0) (v := ?_) rfl (fun _ _ _ h => h) (Or.inl ⟨by rfl, ?yl⟩) (by assumption) ?_; (case yl => ((intro w hSw; (try dsimp only at hSw); obtain ⟨_, kk0, kk1⟩ := hSw; go_simp); with_reducible rfl)); (try simp only [sxA, sxB, sxC, Act.put, sxD, sxE, sxF]))
  (refine tkA (i := 1) (v := ?_) rfl (fun _ _ _ h => h) (Or.inl ⟨by rfl, ?yl⟩) (by assumption) ?_; (case yl => ((intro w hSw; (try dsimp only at hSw); obtain ⟨_, kk0, kk1⟩ := hSw; go_simp); with_reducible rfl)); (try simp only [sxA, sxB, sxC, Act.put, sxD, sxE, sxF]))
  (refine tkA (i := 2) (v := ?_) rfl (fun _ _ _ h => h) (Or.inl ⟨by rfl, ?yl⟩) (by assumption) ?_; (case yl => ((intro w hSw; (try dsimp only at hSw); obtain ⟨_, kk0, kk1⟩ := hSw; go_simp); with_reducible rfl)); (try simp only [sxA, sxB, sxC, Act.put, sxD, sxE, sxF]))
  (refine tkA (i := 3) (v := ?_) rfl (fun _ _ _ h => h) (Or.inl ⟨by rfl, ?yl⟩) (by assumption) ?_; (case yl => ((intro w hSw; (try dsimp only at hSw); obtain ⟨_, kk0, kk1⟩ := hSw; go_simp); with_reducible rfl)); (try simp only [sxA, sxB, sxC, Act.put, sxD, sxE, sxF]))
  (refine tkA (i := 4) (v := ?_) rfl (fun _ _ _ h => h) (Or.inl ⟨by rfl, ?yl⟩) (by assumption) ?_; (case yl => ((intro w hSw; (try dsimp only at hSw); obtain ⟨_, kk0, kk1⟩ := hSw; go_simp); with_reducible rfl)); (try simp only [sxA, sxB, sxC, Act.put, sxD, sxE, sxF]))
  (refine wpAnyH_ready (rs := [5]) (by kernel_rfl) (by simp) ?_; refine AllReadyH.cons (o := _) rfl (fun K hK => ?_) AllReadyH.nil)
  go_simp
  refine (hsm.out _).mono ?_; rintro e w5 ⟨rfl, hE5⟩
  have x5 : Ext v1 w5 := exE
  refine hK.out _ _ ⟨xw.trans x5, x5.cell b0, x5.cell b1⟩ (fun hHeld => ?_)
  clear hK K
  (try simp only [sxA, sxB, sxC, Act.put, sxD, sxE, sxF])
  (refine tkA (i := 6) (v := ?_) rfl (fun _ _ _ h => h) (Or.inl ⟨by rfl, ?yl⟩) (by assumption) ?_; (case yl => ((intro w hSw; (try dsimp only at hSw); obtain ⟨_, kk0, kk1⟩ := hSw; go_simp); with_reducible rfl)); (try simp only [sxA, sxB, sxC, Act.put, sxD, sxE, sxF]))
  (refine wpAnyH_ready (rs := [7]) (by kernel_rfl) (by simp) ?_; refine AllReadyH.cons (o := _) rfl (fun K hK => ?_) AllReadyH.nil)
  have A6 := rb1.ext x5
  obtain ⟨c0, c1, g0, g1⟩ := A6
  have y0 := cell_lt c0
  dsimp only at y0
  go_simp
  obtain ⟨w7, hw7⟩ : ∃ w7, w7 = (w5.setCell ⟨B, 0, none⟩ (.int .i64 N)).setCell ⟨B, 1, none⟩ (.int .i64 D) := ⟨_, rfl⟩
  have X5 := xw.trans x5
  have X7 : Ext w w7 := by rw [hw7]; exact exE
  have b07 : w7.cell? ⟨C, 0, none⟩ = some (.int .i64 N) := by rw [hw7]; exact box_put (by omega) (box_put (by omega) (x5.cell b0))
  have b17 : w7.cell? ⟨C, 1, none⟩ = some (.int .i64 D) := by rw [hw7]; exact box_put (by omega) (box_put (by omega) (x5.cell b1))
  have A7 : Bx2 w7 B N D := by rw [hw7]; exact Bx2.store ⟨c0, c1, g0, g1⟩ _ _
  rw [← hw7]
  clear hw7
  refine hK.out _ _ ⟨X7, b07, b17⟩ (fun hHeld => ?_)
  clear hK K
  clear c0 c1 g0 g1 y0 x5 hE5
  (try simp only [sxA, sxB, sxC, Act.put, sxD, sxE, sxF])
  (refine tkA (i := 8) (v := ?_) rfl (fun _ _ _ h => h) (Or.inl ⟨by rfl, ?yl⟩) (by assumption) ?_; (case yl => ((intro w hSw; (try dsimp only at hSw); obtain ⟨_, kk0, kk1⟩ := hSw; go_simp); with_reducible rfl)); (try simp only [sxA, sxB, sxC, Act.put, sxD, sxE, sxF]))
  (refine tkA (i := 9) (v := ?_) rfl (fun _ _ _ h => h) (Or.inl ⟨by rfl, ?yl⟩) (by assumption) ?_; (case yl => ((intro w hSw; (try dsimp only at hSw); obtain ⟨_, kk0, kk1⟩ := hSw; go_simp); with_reducible rfl)); (try simp only [sxA, sxB, sxC, Act.put, sxD, sxE, sxF]))
  refine wpAnyH_done (by kernel_rfl) ?_ _
  obtain ⟨c0, c1, _, _⟩ := A7
  simp only [calmS]
  go_wp2_with fail
  refine bodyPost_ret (v := .tuple #[(.agg #[.int .i64 (N), .int .i64 (D)]), .bool true, .bool true]) ?_ rfl ⟨rfl, X7⟩
  simp [results, Try.results44, go_sem, *]
 ·have hz := hz (by rw [g]; decide)
  obtain ⟨rfl, rfl⟩ := hz
  rw [g] at hle ⊢
  clear q v hu hc hB n6 hN hD hok g
  go_enter Try.func44, Try.ntmps44
  go_wp2_with fail
  refine name_c (fun w0 hw0 => ?_)
  have X := hid (show Ext w w0 by rw [hw0]; exact exE)
  have rb := hid (show Bx2 w0 (w.heap.size + 1) 0 0 from ⟨by rw [hw0]; simp [go_sem], by rw [hw0]; simp [go_sem], by rw [hw0]; simp [go_sem], by rw [hw0]; simp [go_sem]⟩)
  clear hw0
  obtain ⟨B, hB⟩ : ∃ B, w.heap.size + 1 = B := ⟨_, rfl⟩
  rw [hB] at rb ⊢
  have hBB := hid (show w.heap.size ≤ B by omega)
  clear hB
  refine (hle.out _ (hM.out.ext X.out)).mono ?_; rintro e u1 ⟨rfl, hE⟩
  replace X := hid (X.out.trans hE)
  replace rb := hid (rb.out.ext hE)
  clear hE hle
  have lB := rb.out.lt
  go_upto_region 3 with (fail)
  refine name_wp (fun v1 hv => ?_)
  have x1 : Ext u1 v1 := by rw [hv]; exact exE
  have b0 : v1.cell? ⟨u1.heap.size, 0, none⟩ = some (.int .i64 0) := by rw [hv]; simp [go_sem]
  have b1 : v1.cell? ⟨u1.heap.size, 1, none⟩ = some (.int .i64 0) := by rw [hv]; simp [go_sem]
  have rb1 := rb.out.ext x1
  have xw := X.out.trans x1
  have hBl := rb.out.lt
  clear hv X x1 rb lB
  obtain ⟨C, hC⟩ : ∃ B, u1.heap.size = B := ⟨_, rfl⟩
  rw [hC] at b0 b1 hBl ⊢
  clear hC
  have hBn := hBB.out
  refine wp_mono (Q := calmS _) ?_ calmS_of
  refine wp_region_held_drew (S := fun w' => Ext w w' ∧ w'.cell? ⟨C, 0, none⟩ = some (.int .i64 0) ∧ w'.cell? ⟨C, 1, none⟩ = some (.int .i64 0)) (by kernel_rfl) ⟨xw.trans exE, (show Ext v1 _ from exE).cell b0, (show Ext v1 _ from exE).cell b1⟩ fun hHeld => ?_
  (refine tkA (i := 0) (v := ?_) rfl (fun _ _ _ h => h) (Or.inl ⟨by rfl, ?yl⟩) (by assumption) ?_; (case yl => ((intro w hSw; (try dsimp only at hSw); obtain ⟨_, kk0, kk1⟩ := hSw; go_simp); with_reducible rfl)); (try simp only [sxA, sxB, sxC, Act.put, sxD, sxE, sxF]))
  (refine tkA (i := 1) (v := ?_) rfl (fun _ _ _ h => h) (Or.inl ⟨by rfl, ?yl⟩) (by assumption) ?_; (case yl => ((intro w hSw; (try dsimp only at hSw); obtain ⟨_, kk0, kk1⟩ := hSw; go_simp); with_reducible rfl)); (try simp only [sxA, sxB, sxC, Act.put, sxD, sxE, sxF]))
  (refine tkA (i := 2) (v := ?_) rfl (fun _ _ _ h => h) (Or.inl ⟨by rfl, ?yl⟩) (by assumption) ?_; (case yl => ((intro w hSw; (try dsimp only at hSw); obtain ⟨_, kk0, kk1⟩ := hSw; go_simp); with_reducible rfl)); (try simp only [sxA, sxB, sxC, Act.put, sxD, sxE, sxF]))
  (refine tkA (i := 3) (v := ?_) rfl (fun _ _ _ h => h) (Or.inl ⟨by rfl, ?yl⟩) (by assumption) ?_; (case yl => ((intro w hSw; (try dsimp only at hSw); obtain ⟨_, kk0, kk1⟩ := hSw; go_simp); with_reducible rfl)); (try simp only [sxA, sxB, sxC, Act.put, sxD, sxE, sxF]))
  (refine wpAnyH_ready (rs := [4]) (by kernel_rfl) (by simp) ?_; refine AllReadyH.cons (o := _) rfl (fun K hK => ?_) AllReadyH.nil)
  obtain ⟨c0, c1, g0, g1⟩ := rb1
  have y0 := cell_lt c0
  dsimp only at y0
  go_simp
  obtain ⟨w6, hw6⟩ : ∃ w6, w6 = (v1.setCell ⟨B, 0, none⟩ (.int .i64 0)).setCell ⟨B, 1, none⟩ (.int .i64 0) := ⟨_, rfl⟩
  have X6 : Ext w w6 := by rw [hw6]; have := xw; exact exE
  have b06 : w6.cell? ⟨C, 0, none⟩ = some (.int .i64 0) := by rw [hw6]; exact box_put (by omega) (box_put (by omega) b0)
  have b16 : w6.cell? ⟨C, 1, none⟩ = some (.int .i64 0) := by rw [hw6]; exact box_put (by omega) (box_put (by omega) b1)
  have A6 : Bx2 w6 B 0 0 := by rw [hw6]; exact Bx2.store ⟨c0, c1, g0, g1⟩ _ _
  rw [← hw6]
  clear hw6
  obtain ⟨w7, hw7⟩ : ∃ w7, w7 = w6.drew := ⟨_, rfl⟩
  have x67 : Ext w6 w7 := by rw [hw7]; exact exE
  have X7 := X6.trans x67
  have b07 := x67.cell b06
  have b17 := x67.cell b16
  have A7 := A6.ext x67
  clear x67 X6 b06 b16 A6
  rw [← hw7]
  clear hw7
  refine hK.out _ _ ⟨X7, b07, b17⟩ (fun hHeld => ?_)
  clear hK K
  clear c0 c1 g0 g1 y0
  (try simp only [sxA, sxB, sxC, Act.put, sxD, sxE, sxF])
  (refine tkA (i := 5) (v := ?_) rfl (fun _ _ _ h => h) (Or.inl ⟨by rfl, ?yl⟩) (by assumption) ?_; (case yl => ((intro w hSw; (try dsimp only at hSw); obtain ⟨_, kk0, kk1⟩ := hSw; go_simp); with_reducible rfl)); (try simp only [sxA, sxB, sxC, Act.put, sxD, sxE, sxF]))
  (refine tkA (i := 6) (v := ?_) rfl (fun _ _ _ h => h) (Or.inl ⟨by rfl, ?yl⟩) (by assumption) ?_; (case yl => ((intro w hSw; (try dsimp only at hSw); obtain ⟨_, kk0, kk1⟩ := hSw; go_simp); with_reducible rfl)); (try simp only [sxA, sxB, sxC, Act.put, sxD, sxE, sxF]))
  refine wpAnyH_done (by kernel_rfl) ?_ _
  obtain ⟨c0, c1, _, _⟩ := A7
  simp only [calmS]
  go_wp2_with fail
  refine bodyPost_ret (v := .tuple #[(.agg #[.int .i64 (0), .int .i64 (0)]), .bool false, .bool true]) ?_ rfl ⟨rfl, X7⟩
  simp [results, Try.results44, go_sem, *]
end Go.Proofs.Ytpnfhcnnodolbaa
