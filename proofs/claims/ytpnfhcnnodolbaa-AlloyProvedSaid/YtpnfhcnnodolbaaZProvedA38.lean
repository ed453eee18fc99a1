/- Texts of one proof, laid together: Leq, Min, Dul, Nev, Lbd, Lls, Pfs, Llt, LaVa. -/
import Derived.Test.YtpnfhcnnodolbaaZProvedA37
import Derived.Test.YtpnfhcnnodolbaaZY26
import Derived.Test.YtpnfhcnnodolbaaZY10
import Derived.Test.YtpnfhcnnodolbaaZY7
import Derived.Test.YtpnfhcnnodolbaaZY2
import Derived.Test.YtpnfhcnnodolbaaZProvedA34
import Derived.Test.YtpnfhcnnodolbaaZY25
import Derived.Test.YtpnfhcnnodolbaaZY11
import Derived.Test.YtpnfhcnnodolbaaZY4
import Derived.Test.YtpnfhcnnodolbaaZY18
import Derived.Test.YtpnfhcnnodolbaaZY17
import Derived.Test.YtpnfhcnnodolbaaZY16
import Derived.Test.YtpnfhcnnodolbaaZY8
import Derived.Test.YtpnfhcnnodolbaaZProvedA35
import Derived.Test.YtpnfhcnnodolbaaZY12
import Derived.Test.YtpnfhcnnodolbaaZY3
import Derived.Test.YtpnfhcnnodolbaaZProvedA36
import Derived.Test.YtpnfhcnnodolbaaZY22
import Derived.Test.YtpnfhcnnodolbaaZY20
import Derived.Test.YtpnfhcnnodolbaaZY21
import Derived.Test.YtpnfhcnnodolbaaZY9
import Derived.Test.YtpnfhcnnodolbaaZY5
import Derived.Test.YtpnfhcnnodolbaaZY13
import Derived.Test.YtpnfhcnnodolbaaZY19
import Derived.Test.YtpnfhcnnodolbaaZY1
import Derived.Test.YtpnfhcnnodolbaaZY30
import Derived.Test.YtpnfhcnnodolbaaZY28
import Derived.Test.YtpnfhcnnodolbaaZY23
import Derived.Test.YtpnfhcnnodolbaaZY14
import Derived.Test.YtpnfhcnnodolbaaZY27
import Derived.Test.YtpnfhcnnodolbaaZY6
import Derived.Test.YtpnfhcnnodolbaaZY31
import Derived.Test.YtpnfhcnnodolbaaZY29
import Derived.Test.YtpnfhcnnodolbaaZY32
set_option linter.unusedVariables false
set_option linter.unusedSimpArgs false
set_option linter.unusedSectionVars false
set_option linter.unnecessarySimpa false
set_option maxRecDepth 100000
namespace Go.Proofs.Ytpnfhcnnodolbaa
open Go Go.RowKit Game
theorem bstN_best {lt : Nat → Nat → Bool} {n : Nat} (irr : ∀ i, i < n → lt i i = false) (tr : ∀ i j k, i < n → j < n → k < n → lt i j = true → lt j k = true → lt i k = true) :
 ∀ k, k < n → ∀ j, j ≤ k → lt j (bstN lt k) = false
 | 0, h0, j, hj => by obtain rfl : j = 0 := by omega
                      exact irr 0 h0
 | k + 1, hk, j, hj => by
  have ih := bstN_best irr tr k (by omega)
  have hle := bstN_le lt k
  simp only [bstN]
  by_cases g : lt (k + 1) (bstN lt k) = true
  ·rw [if_pos g]
   by_cases e : j = k + 1
   ·subst e; exact irr _ hk
   ·rw [Bool.eq_false_iff]
    intro h
    have := tr j (k + 1) (bstN lt k) (by omega) hk (by omega) h g
    rw [ih j (by omega)] at this
    cases this
  ·rw [if_neg g]
   by_cases e : j = k + 1
   ·subst e; exact (Bool.eq_false_iff).2 g
   ·exact ih j (by omega)
theorem ltC_iff {l : List Met} {x y : List Int} (hx : Xok l x) (hy : Xok l y) : ltC l x y = decide (costN l x l.length * psum y < costN l y l.length * psum x) := rat_lt hx.pos hy.pos
theorem lt_trans3 {a b c p q r : Int} (hp : 0 < p) (hq : 0 < q) (hr : 0 < r) (h1 : a * q < b * p) (h2 : b * r < c * q) : a * r < c * p := by
 have e1 := Int.mul_lt_mul_of_pos_right h1 hr
 have e2 := Int.mul_lt_mul_of_pos_right h2 hp
 refine Int.lt_of_mul_lt_mul_right (a := q) ?_ (by omega)
 rw [show a * r * q = a * q * r by grind, show c * p * q = c * q * p by grind]
 rw [show b * p * r = b * r * p by grind] at e1
 exact Int.lt_trans e1 e2
theorem best_min {l : List Met} {L : List (List Int)} (hL : ∀ x ∈ L, Xok l x) (h0 : 0 < L.length) {y : List Int} (hy : y ∈ L) :
 ltC l y (row L (bstN (fun i j => ltC l (row L i) (row L j)) (L.length - 1))) = false := by
 have ok : ∀ i, i < L.length → Xok l (row L i) := fun i hi => hL _ (by rw [row_lt hi]; exact List.getElem_mem hi)
 obtain ⟨j, hj, e⟩ := List.getElem_of_mem hy
 have := bstN_best (lt := fun i j => ltC l (row L i) (row L j)) (n := L.length)
  (fun i hi => by rw [ltC_iff (ok i hi) (ok i hi), decide_eq_false_iff_not]; omega)
  (fun a b d ha hb hd h1 h2 => by
   rw [ltC_iff (ok a ha) (ok b hb), decide_eq_true_eq] at h1
   rw [ltC_iff (ok b hb) (ok d hd), decide_eq_true_eq] at h2
   rw [ltC_iff (ok a ha) (ok d hd), decide_eq_true_eq]
   exact lt_trans3 (ok a ha).pos (ok b hb).pos (ok d hd).pos h1 h2) (L.length - 1) (by omega) j (by omega)
 rw [← e, ← row_lt hj]
 exact this
theorem edges_zero {l : List Met} (v : VldM l) {u c : Int} (hu : 0 ≤ u ∧ u ≤ 1000) (hc : 0 ≤ c ∧ c ≤ 1000) (s : Bool) : (edP l u c s).length = 0 ↔ (edg l u c s).length = 0 := by
 constructor
 ·intro h
  have h1 := List.eq_nil_of_length_eq_zero h
  refine Classical.byContradiction fun g => ?_
  have := edg_sub v hu hc (s := s) (List.getElem_mem (show 0 < (edg l u c s).length by omega))
  rw [h1] at this; simp at this
 ·intro h
  have h1 := List.eq_nil_of_length_eq_zero h
  refine Classical.byContradiction fun g => ?_
  have := edP_sub v hu hc (s := s) (List.getElem_mem (show 0 < (edP l u c s).length by omega))
  rw [h1] at this; simp at this
theorem che_eq (l : List Met) (u c : Int) (s : Bool) : cheE l u c s = lrE l u c s := by
 unfold cheE lrE
 by_cases g : ¬ chkB l u c = 0
 ·rw [if_pos g, if_pos g]
 ·rw [if_neg g, if_neg g]
  obtain ⟨v, hu, hc⟩ := chkB_ok (Decidable.not_not.1 g)
  have := edges_zero v hu hc s
  by_cases h : (edP l u c s).length = 0
  ·rw [if_pos h, if_pos (this.1 h)]
  ·rw [if_neg h, if_neg (fun h' => h (this.2 h'))]
def exT (l : List Met) (u c : Int) (s : Bool) (i j : Nat) : Int := if j = 0 then - exA l u c s i else - exC l u c s i
structure Gx (l : List Met) (u c : Int) (s : Bool) (x : List Int) : Prop where
 len : x.length = l.length
 nn : ∀ i, 0 ≤ nth x i
 ps : 0 < psum x
 gd : isG l u c s x = true
theorem exT_sum {l : List Met} (u c : Int) (s : Bool) {x : List Int} (hl : x.length = l.length) :
 ag (exT l u c s) l.length (nth x) 0 = u * psum x - ledN l s x l.length ∧ ag (exT l u c s) l.length (nth x) 1 = copN l s x l.length - c * psum x := by
 constructor
 ·have e : ag (exT l u c s) l.length (nth x) 0 = sm l.length (fun i => u * nth x i + (-1) * (nth x i * badL (mtl l i) s)) := sm_congr fun i _ => by simp [exT, exA, spr]; grind
  rw [e, sm_lin (x := nth x) (z := fun i => nth x i * badL (mtl l i) s)]
  unfold ledN psum; rw [hl]; omega
 ·have e : ag (exT l u c s) l.length (nth x) 1 = sm l.length (fun i => (-c) * nth x i + 1 * (nth x i * goodC (mtl l i) s)) := sm_congr fun i _ => by simp [exT, exC, spr]; grind
  rw [e, sm_lin (x := nth x) (z := fun i => nth x i * goodC (mtl l i) s)]
  unfold copN psum; rw [hl, Int.neg_mul]; omega
theorem isG_iff {l : List Met} {u c : Int} {s : Bool} {x : List Int} (hl : x.length = l.length) : isG l u c s x = true ↔ Al (exT l u c s) l.length 2 (nth x) := by
 obtain ⟨a, b⟩ := exT_sum u c s hl
 unfold isG Al
 rw [Bool.and_eq_true, decide_eq_true_eq, decide_eq_true_eq]
 constructor
 ·intro h j hj
  obtain rfl | rfl : j = 0 ∨ j = 1 := by omega
  ·omega
  ·omega
 ·intro h
  have h0 := h 0 (by omega)
  have h1 := h 1 (by omega)
  omega
theorem ab_abs (p : Int) : ab p = absI p := by unfold ab absI; split <;> split <;> omega
theorem sgn2_of {a0 a1 : Int} (h : Gd [a0, a1]) : ((0 ≤ a0 ∧ 0 ≤ a1) ∨ (a0 ≤ 0 ∧ a1 ≤ 0)) ∧ (a0 ≠ 0 ∨ a1 ≠ 0) := by
 obtain ⟨⟨a, ha, hne⟩, hno⟩ := h
 constructor
 ·refine Classical.byContradiction fun hc => hno ?_
  have h1 : a0 < 0 ∨ a1 < 0 := by omega
  have h2 : 0 < a0 ∨ 0 < a1 := by omega
  exact ⟨h1.elim (fun h => ⟨a0, by simp, h⟩) (fun h => ⟨a1, by simp, h⟩), h2.elim (fun h => ⟨a0, by simp, h⟩) (fun h => ⟨a1, by simp, h⟩)⟩
 ·simp at ha; rcases ha with rfl | rfl
  ·exact .inl hne
  ·exact .inr hne
theorem sgn3_of {a0 a1 a2 : Int} (h : Gd [a0, a1, a2]) : ((0 ≤ a0 ∧ 0 ≤ a1 ∧ 0 ≤ a2) ∨ (a0 ≤ 0 ∧ a1 ≤ 0 ∧ a2 ≤ 0)) ∧ (a0 ≠ 0 ∨ a1 ≠ 0 ∨ a2 ≠ 0) := by
 obtain ⟨⟨a, ha, hne⟩, hno⟩ := h
 constructor
 ·refine Classical.byContradiction fun hc => hno ?_
  have h1 : a0 < 0 ∨ a1 < 0 ∨ a2 < 0 := by omega
  have h2 : 0 < a0 ∨ 0 < a1 ∨ 0 < a2 := by omega
  refine ⟨?_, ?_⟩
  ·rcases h1 with h | h | h
   ·exact ⟨a0, by simp, h⟩
   ·exact ⟨a1, by simp, h⟩
   ·exact ⟨a2, by simp, h⟩
  ·rcases h2 with h | h | h
   ·exact ⟨a0, by simp, h⟩
   ·exact ⟨a1, by simp, h⟩
   ·exact ⟨a2, by simp, h⟩
 ·simp at ha; rcases ha with rfl | rfl | rfl
  ·exact .inl hne
  ·exact .inr (.inl hne)
  ·exact .inr (.inr hne)
theorem sgnP2 {p0 p1 : Int} (h : (0 ≤ p0 ∧ 0 ≤ p1) ∨ (p0 ≤ 0 ∧ p1 ≤ 0)) (h2 : p0 ≠ 0 ∨ p1 ≠ 0) : SgnP 2 (nth [p0, p1]) := by
 refine ⟨?_, ?_⟩
 ·rcases h with h | h
  ·exact .inl (two_cases h.1 h.2)
  ·exact .inr (two_cases h.1 h.2)
 ·rcases h2 with h | h
  ·exact ⟨0, by omega, h⟩
  ·exact ⟨1, by omega, h⟩
theorem sgnP3 {p0 p1 p2 : Int} (h : (0 ≤ p0 ∧ 0 ≤ p1 ∧ 0 ≤ p2) ∨ (p0 ≤ 0 ∧ p1 ≤ 0 ∧ p2 ≤ 0)) (h2 : p0 ≠ 0 ∨ p1 ≠ 0 ∨ p2 ≠ 0) : SgnP 3 (nth [p0, p1, p2]) := by
 refine ⟨?_, ?_⟩
 ·rcases h with h | h
  ·exact .inl (three_cases h.1 h.2.1 h.2.2)
  ·exact .inr (three_cases h.1 h.2.1 h.2.2)
 ·rcases h2 with h | h | h
  ·exact ⟨0, by omega, h⟩
  ·exact ⟨1, by omega, h⟩
  ·exact ⟨2, by omega, h⟩
theorem put_eq {n : Nat} {t : List Nat} {p : List Int} (n1 : 1 ≤ n) (hs : SgnP p.length (nth p)) (ht : ∀ k, k < p.length → t.getD k 0 < n) (hd : ∀ j k, j < k → k < p.length → t.getD j 0 ≠ t.getD k 0)
 (e : Nat → Int) (h1 : ∀ k, k < p.length → e (t.getD k 0) = absI (nth p k)) (h2 : ∀ i, (∀ k, k < p.length → t.getD k 0 ≠ i) → e i = 0) : mkL n e = putL n t p := by
 have hl := (putL_iff (t := t) n1).2 hs
 refine list_ext_nth (by rw [mkL_len, hl]) fun i hi => ?_
 rw [mkL_len] at hi
 rw [mkL_nth _ hi, (putL_out n1 hl).1]
 by_cases g : ∃ k, k < p.length ∧ t.getD k 0 = i
 ·obtain ⟨k, hk, rfl⟩ := g
  rw [out_at ht hd _ (Nat.le_refl _) k hk, h1 k hk]
 ·have h3 : ∀ k, k < p.length → t.getD k 0 ≠ i := fun k hk e => g ⟨k, hk, e⟩
  rw [out_else h3 _ (Nat.le_refl _), h2 i h3]
theorem edge_in {l : List Met} (v : VldM l) {u c : Int} {s : Bool} {e : Nat → Int} (he : EdgeA (exT l u c s) l.length e) (hA : Al (exT l u c s) l.length 2 e) : mkL l.length e ∈ edg l u c s := by
 have n1 := v.n1
 have hg : isG l u c s (mkL l.length e) = true := by
  rw [isG_iff (mkL_len _ _)]
  intro j hj
  have := hA j hj
  rw [show ag (exT l u c s) l.length (nth (mkL l.length e)) j = ag (exT l u c s) l.length e j from sm_congr fun i hi => by rw [mkL_nth _ hi]]
  exact this
 refine edg_in ?_ (mkL_len _ _) hg
 rcases he with ⟨a, ha, rfl⟩ | ⟨a, b, j, hab, hb, hj, hGd, rfl⟩ | ⟨a, b, d, hab, hbd, hd, hGd, rfl⟩
 ·refine .inl ⟨a, ha, put_eq n1 (by refine ⟨.inl fun k hk => ?_, 0, by simp, by decide⟩; (have : k = 0 := by simpa using hk); subst this; decide) (fun k hk => ?_) (fun j k hjk hk => ?_) _ (fun k hk => ?_) (fun i hi => ?_)⟩
  ·have : k = 0 := by simpa using hk
   subst this; simpa using ha
  ·simp at hk; omega
  ·have : k = 0 := by simpa using hk
   subst this; simp [put, ab, absI, nth]
  ·have := hi 0 (by simp)
   simp only [List.getD_cons_zero] at this
   simp only [List.map, put, if_neg (Ne.symm this)]
 ·obtain ⟨h1, h2⟩ := sgn2_of hGd
  have hne : ¬ b = a := by omega
  have main : ∀ X : Nat → Int, (∀ i, exT l u c s i j = - X i) → mkL l.length (put [a, b] ([exT l u c s b j, - exT l u c s a j].map ab)) = putL l.length [b, a] [X a, - X b] := fun X hX => by
   rw [hX, hX] at h1 h2 ⊢
   refine put_eq (p := [X a, - X b]) n1 (sgnP2 (by omega) (by omega)) (fun k hk => ?_) (fun j k hjk hk => ?_) _ (fun k hk => ?_) (fun i hi => ?_)
   ·rcases k with _ | _ | k <;> simp at hk ⊢ <;> omega
   ·rcases k with _ | _ | k
    ·omega
    ·obtain rfl : j = 0 := by omega
     simp; omega
    ·simp at hk; omega
   ·rcases k with _ | _ | k
    ·simp only [List.getD_cons_zero, List.map, put, if_neg hne, if_true, nth_zero, ab_abs, Int.neg_neg]
    ·simp only [List.getD_cons_zero, List.getD_cons_succ, List.map, put, if_true, nth_succ, nth_zero, ab_abs]
    ·simp at hk; omega
   ·have i0 := hi 0 (by simp)
    have i1 := hi 1 (by simp)
    simp only [List.getD_cons_zero, List.getD_cons_succ] at i0 i1
    simp only [List.map, put, if_neg (Ne.symm i1), if_neg (Ne.symm i0)]
  refine .inr (.inl ⟨b, a, hab, hb, ?_⟩)
  obtain rfl | rfl : j = 0 ∨ j = 1 := by omega
  ·exact .inl (main (exA l u c s) fun i => by simp [exT])
  ·exact .inr (main (exC l u c s) fun i => by simp [exT])
 ·obtain ⟨h1, h2⟩ := sgn3_of hGd
  have hba : ¬ b = a := by omega
  have hda : ¬ d = a := by omega
  have hdb : ¬ d = b := by omega
  refine .inr (.inr ⟨d, b, a, hab, hbd, hd, ?_⟩)
  have hX : ∀ i, exT l u c s i 0 = - exA l u c s i := fun i => by simp [exT]
  have hY : ∀ i, exT l u c s i 1 = - exC l u c s i := fun i => by simp [exT]
  generalize hp0 : exT l u c s b 0 * exT l u c s d 1 - exT l u c s b 1 * exT l u c s d 0 = g0 at h1 h2 ⊢
  generalize hp1 : exT l u c s d 0 * exT l u c s a 1 - exT l u c s d 1 * exT l u c s a 0 = g1 at h1 h2 ⊢
  generalize hp2 : exT l u c s a 0 * exT l u c s b 1 - exT l u c s a 1 * exT l u c s b 0 = g2 at h1 h2 ⊢
  rw [hX, hX, hY, hY] at hp0 hp1 hp2
  have q0 : exA l u c s b * exC l u c s a - exC l u c s b * exA l u c s a = - g2 := by grind
  have q1 : exA l u c s a * exC l u c s d - exC l u c s a * exA l u c s d = - g1 := by grind
  have q2 : exA l u c s d * exC l u c s b - exC l u c s d * exA l u c s b = - g0 := by grind
  rw [q0, q1, q2]
  refine put_eq (p := [- g2, - g1, - g0]) n1 (sgnP3 (by omega) (by omega)) (fun k hk => ?_) (fun j k hjk hk => ?_) _ (fun k hk => ?_) (fun i hi => ?_)
  ·rcases k with _ | _ | _ | k <;> simp at hk ⊢ <;> omega
  ·rcases k with _ | _ | _ | k
   ·omega
   ·obtain rfl : j = 0 := by omega
    simp; omega
   ·have : j = 0 ∨ j = 1 := by omega
    rcases this with rfl | rfl <;> simp <;> omega
   ·simp at hk; omega
  ·rcases k with _ | _ | _ | k
   ·simp only [List.getD_cons_zero, List.map, put, if_neg hda, if_neg hdb, if_true, nth_zero, ab_abs, absI_neg]
   ·simp only [List.getD_cons_zero, List.getD_cons_succ, List.map, put, if_neg hba, if_true, nth_succ, nth_zero, ab_abs, absI_neg]
   ·simp only [List.getD_cons_zero, List.getD_cons_succ, List.map, put, if_true, nth_succ, nth_zero, ab_abs, absI_neg]
   ·simp at hk; omega
  ·have i0 := hi 0 (by simp)
   have i1 := hi 1 (by simp)
   have i2 := hi 2 (by simp)
   simp only [List.getD_cons_zero, List.getD_cons_succ] at i0 i1 i2
   simp only [List.map, put, if_neg (Ne.symm i2), if_neg (Ne.symm i1), if_neg (Ne.symm i0)]
def fsm (l : List Met) (f : Nat → Int) (x : List Int) : Int := sm l.length fun i => nth x i * f i
theorem edge_min {l : List Met} (v : VldM l) {u c : Int} {s : Bool} (f : Nat → Int) {x : List Int} (g : Gx l u c s x) : ∃ y, y ∈ edg l u c s ∧ fsm l f y * psum x ≤ fsm l f x * psum y := by
 have hx : Pl l.length (nth x) := ⟨fun i _ => g.nn i, by have := g.ps; unfold psum at this; rw [g.len] at this; exact this⟩
 obtain ⟨e, he, hp, hA, hle⟩ := edge_le f hx ((isG_iff g.len).1 g.gd)
 refine ⟨mkL l.length e, edge_in v he hA, ?_⟩
 have e1 : fsm l f (mkL l.length e) = co f l.length e := sm_congr fun i hi => by rw [mkL_nth _ hi]
 have e2 : psum (mkL l.length e) = sm l.length e := by unfold psum; rw [mkL_len]; exact sm_congr fun i hi => by rw [mkL_nth _ hi]
 have e3 : psum x = sm l.length (nth x) := by unfold psum; rw [g.len]
 rw [e1, e2, e3]
 exact hle
theorem edg_gx {l : List Met} (v : VldM l) {u c : Int} (hu : 0 ≤ u ∧ u ≤ 1000) (hc : 0 ≤ c ∧ c ≤ 1000) {s : Bool} {x : List Int} (h : x ∈ edg l u c s) : Gx l u c s x := by
 obtain ⟨a, b, _⟩ := edg_ok v hu hc h
 exact ⟨a.len, fun i => (a.prt i).1, a.pos, b⟩
theorem gx_che {l : List Met} {u c : Int} (hB : chkB l u c = 0) (s : Bool) : cheE l u c s = 0 ↔ ∃ x, Gx l u c s x := by
 obtain ⟨v, hu, hc⟩ := chkB_ok hB
 rw [che_eq]
 unfold lrE
 rw [if_neg (fun h => h hB)]
 constructor
 ·intro h
  have h0 : 0 < (edg l u c s).length := by
   refine Classical.byContradiction fun g => ?_
   rw [if_pos (by omega)] at h; cases h
  exact ⟨_, edg_gx v hu hc (List.getElem_mem h0)⟩
 ·rintro ⟨x, g⟩
  obtain ⟨y, hy, _⟩ := edge_min v (fun _ => 0) g
  have : (edg l u c s).length ≠ 0 := fun e => by
   have := List.eq_nil_of_length_eq_zero e
   rw [this] at hy; simp at hy
  rw [if_neg this]
theorem che_two {l : List Met} {u c : Int} (hB : chkB l u c = 0) (s : Bool) : cheE l u c s = 0 ∨ cheE l u c s = 17 := by
 unfold cheE
 rw [if_neg (fun h => h hB)]
 split
 ·exact .inr rfl
 ·exact .inl rfl
theorem che_pos {l : List Met} {u c : Int} (hB : chkB l u c = 0) {s : Bool} (h : cheE l u c s = 0) : 0 < (edP l u c s).length := by
 refine Classical.byContradiction fun g => ?_
 unfold cheE at h
 rw [if_neg (fun h' => h' hB), if_pos (by omega)] at h; cases h
theorem chp_gx {l : List Met} {u c : Int} (hB : chkB l u c = 0) {s : Bool} (h : cheE l u c s = 0) : Gx l u c s (chpL l u c s) ∧ chpL l u c s ∈ edg l u c s := by
 obtain ⟨v, hu, hc⟩ := chkB_ok hB
 have := edP_sub v hu hc (chp_mem (che_pos hB h))
 exact ⟨edg_gx v hu hc this, this⟩
theorem chp_le {l : List Met} {u c : Int} (hB : chkB l u c = 0) {s : Bool} (h : cheE l u c s = 0) {x : List Int} (g : Gx l u c s x) :
 costN l (chpL l u c s) l.length * psum x ≤ costN l x l.length * psum (chpL l u c s) := by
 obtain ⟨v, hu, hc⟩ := chkB_ok hB
 obtain ⟨y, hy, hle⟩ := edge_min v (fun i => (mtl l i).p) g
 have o := edP_ok v hu hc (chp_mem (che_pos hB h))
 have oy := edg_ok v hu hc hy
 have m := best_min (fun x hx => (edP_ok v hu hc hx).1) (che_pos hB h) (edg_sub v hu hc hy)
 change ltC l y (chpL l u c s) = false at m
 rw [ltC_iff oy.1 o.1, decide_eq_false_iff_not] at m
 change costN l y l.length * psum x ≤ costN l x l.length * psum y at hle
 refine ratio_trans oy.1.pos o.1.pos g.ps (c := costN l y l.length) ?_ hle
 omega
theorem hld_at {l : List Met} {s : Bool} {d b le co : Int} : hld l s d b le co = true ↔ ∀ k, k < l.length → b - le * badL (mtl l k) s + co * goodC (mtl l k) s ≤ d * (mtl l k).p := by
 unfold hld
 rw [hldN_iff]
 simp only [hldM, decide_eq_true_eq]
theorem weak_val {l : List Met} {u c : Int} {s : Bool} {d b le co : Int} (h : hld l s d b le co = true) (h1 : 0 ≤ le) (h2 : 0 ≤ co) {x : List Int} (g : Gx l u c s x) :
 valP u c b le co * psum x ≤ d * costN l x l.length := by
 rw [hld_at] at h
 have hg := g.gd
 unfold isG at hg
 rw [Bool.and_eq_true, decide_eq_true_eq, decide_eq_true_eq] at hg
 obtain ⟨g1, g2⟩ := hg
 have e1 : psum x = sm l.length (nth x) := by unfold psum; rw [g.len]
 have k1 := Int.mul_le_mul_of_nonneg_left g1 h1
 have k2 := Int.mul_le_mul_of_nonneg_left g2 h2
 have k3 : sm l.length (fun i => nth x i * (b - le * badL (mtl l i) s + co * goodC (mtl l i) s)) ≤ sm l.length (fun i => nth x i * (d * (mtl l i).p)) := sm_le fun i hi => Int.mul_le_mul_of_nonneg_left (h i hi) (g.nn i)
 have e2 : sm l.length (fun i => nth x i * (d * (mtl l i).p)) = d * costN l x l.length := by
  unfold costN; rw [← sm_mul]; exact sm_congr fun i _ => by grind
 have e3 : sm l.length (fun i => nth x i * (b - le * badL (mtl l i) s + co * goodC (mtl l i) s)) = b * psum x + (-le) * ledN l s x l.length + co * copN l s x l.length := by
  rw [e1]; unfold ledN copN
  rw [← sm_mul, ← sm_mul, ← sm_mul, ← sm_add, ← sm_add]
  exact sm_congr fun i _ => by grind
 rw [e2, e3] at k3
 unfold valP
 have e4 : (b - le * u + co * c) * psum x = b * psum x - le * (u * psum x) + co * (c * psum x) := by grind
 rw [e4]
 rw [Int.neg_mul] at k3
 omega
def gS (l : List Met) (s : Bool) (i r : Nat) : Int := if i < l.length then rwN l s i r else - rwN l s i r
def bS (l : List Met) (i : Nat) : Int := (mtl l i).p
def vS (u c : Int) (i r : Nat) : Int := if r = 0 then 1 else if r = 1 then - u else c
theorem vS_at (u c : Int) (y : Nat → Int) : sd (vS u c) 0 y = y 0 - u * y 1 + c * y 2 := by unfold sd vS; simp; grind
theorem gS_sg (l : List Met) (s : Bool) (i : Nat) : ∃ σ : Int, (σ = 1 ∨ σ = -1) ∧ ∀ r, gS l s i r = σ * rwN l s i r := by
 by_cases g : i < l.length
 ·exact ⟨1, .inl rfl, fun r => by unfold gS; rw [if_pos g]; omega⟩
 ·exact ⟨-1, .inr rfl, fun r => by unfold gS; rw [if_neg g]; omega⟩
theorem sd_lo {l : List Met} {s : Bool} {i : Nat} (h : i < l.length) (y : Nat → Int) : sd (gS l s) i y = y 0 - badL (mtl l i) s * y 1 + goodC (mtl l i) s * y 2 := by
 unfold sd gS
 simp only [if_pos h]
 simp [rwN, h, rwM]; grind
theorem sd_n1 (l : List Met) (s : Bool) (y : Nat → Int) : sd (gS l s) l.length y = - y 1 := by
 unfold sd gS; simp [rwN]
theorem sd_n2 (l : List Met) (s : Bool) (y : Nat → Int) : sd (gS l s) (l.length + 1) y = - y 2 := by
 have h : ¬ l.length + 1 < l.length := by omega
 unfold sd gS; simp [rwN, h]
theorem gS_span {l : List Met} (v : VldM l) (s : Bool) : ∀ z : Nat → Int, (∃ j, j < 3 ∧ z j ≠ 0) → ∃ i, i < l.length + 2 ∧ sd (gS l s) i z ≠ 0 := by
 rintro z ⟨j, hj, hz⟩
 refine Classical.byContradiction fun hno => ?_
 have h0 : ∀ i, i < l.length + 2 → sd (gS l s) i z = 0 := fun i hi => Classical.byContradiction fun e => hno ⟨i, hi, e⟩
 have n1 := v.n1
 have a1 := h0 l.length (by omega)
 have a2 := h0 (l.length + 1) (by omega)
 have a0 := h0 0 (by omega)
 rw [sd_n1] at a1
 rw [sd_n2] at a2
 rw [sd_lo (by omega), show z 1 = 0 by omega, show z 2 = 0 by omega] at a0
 obtain rfl | rfl | rfl : j = 0 ∨ j = 1 ∨ j = 2 := by omega
 ·simp at a0; exact hz a0
 ·omega
 ·omega
theorem sd_rw {l : List Met} {s : Bool} {i : Nat} {y : Nat → Int} {D : Int} (h : sd (gS l s) i y = bS l i * D) : sd (rwN l s) i y = (mtl l i).p * D := by
 by_cases g : i < l.length
 ·have e : sd (gS l s) i y = sd (rwN l s) i y := by unfold sd gS; simp only [if_pos g]
  rw [← e]; exact h
 ·have e : sd (gS l s) i y = - sd (rwN l s) i y := by unfold sd gS; simp only [if_neg g]; grind
  have e2 : (mtl l i).p = 0 := by rw [mtl_ge (by omega)]
  unfold bS at h
  rw [e2] at h ⊢
  omega
theorem dN_poly (l : List Met) (s : Bool) (i k j : Nat) : dN l s i k j = rwN l s i 0 * (rwN l s k 1 * rwN l s j 2 - rwN l s k 2 * rwN l s j 1) + rwN l s i 1 * (rwN l s k 2 * rwN l s j 0 - rwN l s k 0 * rwN l s j 2) + rwN l s i 2 * (rwN l s k 0 * rwN l s j 1 - rwN l s k 1 * rwN l s j 0) := by
 unfold dN dtv crs; simp
theorem dN_ne {l : List Met} {s : Bool} {i j k : Nat} (h : det3 (gS l s) i j k ≠ 0) : dN l s i j k ≠ 0 := by
 intro e
 refine h ?_
 rw [dN_poly] at e
 obtain ⟨a, _, ha⟩ := gS_sg l s i
 obtain ⟨b, _, hb⟩ := gS_sg l s j
 obtain ⟨d, _, hd⟩ := gS_sg l s k
 unfold det3
 simp only [ha, hb, hd]
 generalize rwN l s i 0 = x0 at *; generalize rwN l s i 1 = x1 at *; generalize rwN l s i 2 = x2 at *
 generalize rwN l s j 0 = y0 at *; generalize rwN l s j 1 = y1 at *; generalize rwN l s j 2 = y2 at *
 generalize rwN l s k 0 = z0 at *; generalize rwN l s k 1 = z1 at *; generalize rwN l s k 2 = z2 at *
 have : a * x0 * (b * y1 * (d * z2) - d * z1 * (b * y2)) - b * y0 * (a * x1 * (d * z2) - d * z1 * (a * x2)) + d * z0 * (a * x1 * (b * y2) - b * y1 * (a * x2)) = a * b * d * (x0 * (y1 * z2 - y2 * z1) + x1 * (y2 * z0 - y0 * z2) + x2 * (y0 * z1 - y1 * z0)) := by grind
 rw [this, e, Int.mul_zero]
theorem dN_sw1 (l : List Met) (s : Bool) (i k j : Nat) : dN l s k i j = - dN l s i k j := by rw [dN_poly, dN_poly]; grind
theorem dN_sw2 (l : List Met) (s : Bool) (i k j : Nat) : dN l s i j k = - dN l s i k j := by rw [dN_poly, dN_poly]; grind
theorem sort3 {l : List Met} {s : Bool} {P : Nat → Prop} {a b c : Nat} (ha : P a) (hb : P b) (hc : P c) (h : dN l s a b c ≠ 0) : ∃ i k j, j < k ∧ k < i ∧ P i ∧ P k ∧ P j ∧ dN l s i k j ≠ 0 := by
 have s1 := dN_sw1 l s a b c
 have s2 := dN_sw2 l s a b c
 have s3 := dN_sw2 l s b a c
 have s4 := dN_sw1 l s a c b
 have s5 := dN_sw1 l s b c a
 have nab : a ≠ b := fun e => by subst e; omega
 have nbc : b ≠ c := fun e => by subst e; omega
 have nac : a ≠ c := fun e => by subst e; omega
 rcases Nat.lt_or_gt_of_ne nab with h1 | h1 <;> rcases Nat.lt_or_gt_of_ne nbc with h2 | h2 <;> rcases Nat.lt_or_gt_of_ne nac with h3 | h3
 ·exact ⟨c, b, a, h1, h2, hc, hb, ha, by omega⟩
 ·omega
 ·exact ⟨b, c, a, h3, h2, hb, hc, ha, by omega⟩
 ·exact ⟨b, a, c, h3, h1, hb, ha, hc, by omega⟩
 ·exact ⟨c, a, b, h1, h3, hc, ha, hb, by omega⟩
 ·exact ⟨a, c, b, h2, h3, ha, hc, hb, by omega⟩
 ·omega
 ·exact ⟨a, b, c, h2, h1, ha, hb, hc, h⟩
theorem crs_at (a b : Nat → Int) : crs a b 0 = a 1 * b 2 - a 2 * b 1 ∧ crs a b 1 = a 2 * b 0 - a 0 * b 2 ∧ crs a b 2 = a 0 * b 1 - a 1 * b 0 := by simp [crs]
theorem cramer {l : List Met} {s : Bool} {i k j : Nat} {y : Nat → Int} {D : Int} (hi : sd (rwN l s) i y = (mtl l i).p * D) (hk : sd (rwN l s) k y = (mtl l k).p * D) (hj : sd (rwN l s) j y = (mtl l j).p * D) :
 dN l s i k j * y 0 = D * xN l s i k j 0 ∧ dN l s i k j * y 1 = D * xN l s i k j 1 ∧ dN l s i k j * y 2 = D * xN l s i k j 2 := by
 rw [dN_poly]
 unfold xN
 obtain ⟨a0, a1, a2⟩ := crs_at (rwN l s k) (rwN l s j)
 obtain ⟨b0, b1, b2⟩ := crs_at (rwN l s j) (rwN l s i)
 obtain ⟨c0, c1, c2⟩ := crs_at (rwN l s i) (rwN l s k)
 rw [a0, a1, a2, b0, b1, b2, c0, c1, c2]
 unfold sd at hi hk hj
 clear a0 a1 a2 b0 b1 b2 c0 c1 c2
 generalize rwN l s i 0 = x0 at *; generalize rwN l s i 1 = x1 at *; generalize rwN l s i 2 = x2 at *
 generalize rwN l s k 0 = y0 at *; generalize rwN l s k 1 = y1 at *; generalize rwN l s k 2 = y2 at *
 generalize rwN l s j 0 = z0 at *; generalize rwN l s j 1 = z1 at *; generalize rwN l s j 2 = z2 at *
 generalize y 0 = Y0 at *; generalize y 1 = Y1 at *; generalize y 2 = Y2 at *
 generalize (mtl l i).p = p at *; generalize (mtl l k).p = q at *; generalize (mtl l j).p = r at *
 refine ⟨?_, ?_, ?_⟩
 ·have e : (x0 * (y1 * z2 - y2 * z1) + x1 * (y2 * z0 - y0 * z2) + x2 * (y0 * z1 - y1 * z0)) * Y0 = (x0 * Y0 + x1 * Y1 + x2 * Y2) * (y1 * z2 - y2 * z1) + (y0 * Y0 + y1 * Y1 + y2 * Y2) * (z1 * x2 - z2 * x1) + (z0 * Y0 + z1 * Y1 + z2 * Y2) * (x1 * y2 - x2 * y1) := by grind
  rw [e, hi, hk, hj]; grind
 ·have e : (x0 * (y1 * z2 - y2 * z1) + x1 * (y2 * z0 - y0 * z2) + x2 * (y0 * z1 - y1 * z0)) * Y1 = (x0 * Y0 + x1 * Y1 + x2 * Y2) * (y2 * z0 - y0 * z2) + (y0 * Y0 + y1 * Y1 + y2 * Y2) * (z2 * x0 - z0 * x2) + (z0 * Y0 + z1 * Y1 + z2 * Y2) * (x2 * y0 - x0 * y2) := by grind
  rw [e, hi, hk, hj]; grind
 ·have e : (x0 * (y1 * z2 - y2 * z1) + x1 * (y2 * z0 - y0 * z2) + x2 * (y0 * z1 - y1 * z0)) * Y2 = (x0 * Y0 + x1 * Y1 + x2 * Y2) * (y0 * z1 - y1 * z0) + (y0 * Y0 + y1 * Y1 + y2 * Y2) * (z0 * x1 - z1 * x0) + (z0 * Y0 + z1 * Y1 + z2 * Y2) * (x0 * y1 - x1 * y0) := by grind
  rw [e, hi, hk, hj]; grind
theorem cnQ_at {l : List Met} {s : Bool} {i k j : Nat} (h : dN l s i k j ≠ 0) : ∃ σ : Int, 0 < σ * dN l s i k j ∧ nth (cnQ l s i k j) 0 = σ * dN l s i k j ∧ nth (cnQ l s i k j) 1 = σ * xN l s i k j 0 ∧ nth (cnQ l s i k j) 2 = σ * xN l s i k j 1 ∧ nth (cnQ l s i k j) 3 = σ * xN l s i k j 2 := by
 by_cases g : dN l s i k j < 0
 ·exact ⟨-1, by omega, by unfold cnQ; rw [if_pos g]; simp [nth], by unfold cnQ; rw [if_pos g]; simp [nth], by unfold cnQ; rw [if_pos g]; simp [nth], by unfold cnQ; rw [if_pos g]; simp [nth]⟩
 ·exact ⟨1, by omega, by unfold cnQ; rw [if_neg g]; simp [nth], by unfold cnQ; rw [if_neg g]; simp [nth], by unfold cnQ; rw [if_neg g]; simp [nth], by unfold cnQ; rw [if_neg g]; simp [nth]⟩
theorem stP_mono {l : List Met} {s : Bool} {i k j : Nat} {L : PL} {x : List Int} (h : x ∈ L.map Prod.fst) : x ∈ (stP l s i k j L).map Prod.fst := by
 unfold stP; split
 ·exact h
 ·exact putP_mem.2 (.inl h)
theorem P3_mono {l : List Met} {s : Bool} {i k : Nat} {L : PL} {x : List Int} (h : x ∈ L.map Prod.fst) : ∀ j, x ∈ (P3 l s i k j L).map Prod.fst
 | 0 => h
 | j + 1 => stP_mono (P3_mono h j)
theorem P2_mono {l : List Met} {s : Bool} {i : Nat} {L : PL} {x : List Int} (h : x ∈ L.map Prod.fst) : ∀ k, x ∈ (P2 l s i k L).map Prod.fst
 | 0 => h
 | k + 1 => P3_mono (P2_mono h k) _
theorem P3_in {l : List Met} {s : Bool} {i k j : Nat} {L : PL} (hd : dN l s i k j ≠ 0) : ∀ {K}, j < K → cnQ l s i k j ∈ (P3 l s i k K L).map Prod.fst
 | K + 1, hj => by
  by_cases e : j = K
  ·subst e
   simp only [P3, stP, if_neg hd]
   exact putP_mem.2 (.inr rfl)
  ·exact stP_mono (P3_in hd (by omega))
theorem P2_in {l : List Met} {s : Bool} {i k j : Nat} {L : PL} (hd : dN l s i k j ≠ 0) (hj : j < k) : ∀ {K}, k < K → cnQ l s i k j ∈ (P2 l s i K L).map Prod.fst
 | K + 1, hk => by
  by_cases e : k = K
  ·subst e
   exact P3_in hd hj
  ·exact P3_mono (P2_in hd hj (by omega)) _
theorem P1_in {l : List Met} {s : Bool} {i k j : Nat} (hd : dN l s i k j ≠ 0) (hj : j < k) (hk : k < i) : ∀ {K}, i < K → cnQ l s i k j ∈ (P1 l s K).map Prod.fst
 | K + 1, hi => by
  by_cases e : i = K
  ·subst e
   exact P2_in hd hj hk
  ·exact P2_mono (P1_in hd hj hk (by omega)) _
theorem gdP_iff {l : List Met} {s : Bool} {x : List Int} : gdP l s x = true ↔ 0 ≤ nth x 2 ∧ 0 ≤ nth x 3 ∧ hld l s (nth x 0) (nth x 1) (nth x 2) (nth x 3) = true := by
 unfold gdP; rw [Bool.and_eq_true, Bool.and_eq_true, decide_eq_true_eq, decide_eq_true_eq]
theorem dual_y {l : List Met} (v : VldM l) {u c : Int} {s : Bool} {p : Nat → Int} {N D : Int} (hD : 0 ≤ D) (h : ∀ x, Gx l u c s x → N * psum x ≤ fsm l p x * D) :
 ∃ (y : Nat → Int) (Q : Int), 0 < Q ∧ 0 ≤ y 1 ∧ 0 ≤ y 2 ∧ (∀ i, i < l.length → y 0 - badL (mtl l i) s * y 1 + goodC (mtl l i) s * y 2 ≤ p i * (D * Q)) ∧ y 0 - u * y 1 + c * y 2 = N * Q := by
 obtain ⟨P, M, Q, hQ, hP, hM, hb⟩ := dual_pt (A := exT l u c s) (m := l.length) (c := p) (N := N) (D := D) fun x hx hA => by
  have e1 : sm l.length (nth (mkL l.length x)) = sm l.length x := sm_congr fun i hi => by rw [mkL_nth _ hi]
  have e2 : psum (mkL l.length x) = sm l.length x := by unfold psum; rw [mkL_len]; exact e1
  have e3 : fsm l p (mkL l.length x) = co p l.length x := sm_congr fun i hi => by rw [mkL_nth _ hi]
  have e4 : ∀ j, ag (exT l u c s) l.length (nth (mkL l.length x)) j = ag (exT l u c s) l.length x j := fun j => sm_congr fun i hi => by rw [mkL_nth _ hi]
  have := h (mkL l.length x) ⟨mkL_len _ _, fun i => by
   rcases Nat.lt_or_ge i l.length with g | g
   ·rw [mkL_nth _ g]; exact hx.nn i g
   ·rw [nth_mkL_out g]; omega, by rw [e2]; exact hx.ps, (isG_iff (mkL_len _ _)).2 fun j hj => by rw [e4]; exact hA j hj⟩
  rw [e2, e3] at this
  exact this
 refine ⟨fun j => if j = 0 then N * Q + u * P - c * M else if j = 1 then P else M, Q, hQ, by simpa using hP, by simpa using hM, fun i hi => ?_, by simp; omega⟩
 have := hb i hi
 simp only [exT, exA, exC, spr] at this
 simp at this ⊢
 have e : N * Q + u * P - c * M - badL (mtl l i) s * P + goodC (mtl l i) s * M - p i * (D * Q) = (-(badL (mtl l i) s - u)) * P + (-(c - goodC (mtl l i) s)) * M - (p i * D - N) * Q := by grind
 have e5 : (-(badL (mtl l i) s - u)) * P + (-(c - goodC (mtl l i) s)) * M = (u - badL (mtl l i) s) * P + (goodC (mtl l i) s - c) * M := by grind
 omega
set_option maxHeartbeats 1000000 in
theorem prF_some {l : List Met} {u c : Int} (hB : chkB l u c = 0) {s : Bool} (h : cheE l u c s = 0) : (prF l u c s).isSome = true := by
 obtain ⟨v, hu, hc⟩ := chkB_ok hB
 obtain ⟨gx, _⟩ := chp_gx hB h
 have hle := fun x (g : Gx l u c s x) => chp_le hB h g
 generalize hch : chpL l u c s = X at gx hle
 have hX := gx.ps
 obtain ⟨y, Q, hQ, hy1, hy2, hin, hval⟩ := dual_y v (p := fun i => (mtl l i).p) (N := costN l X l.length) (D := psum X) (by omega) fun x g => hle x g
 have hDQ : 0 < psum X * Q := Int.mul_pos hX hQ
 obtain ⟨y', D', i, j, k, hD', hin', hv', hi, hj, hk, hdet, ti, tj, tk⟩ := vertex (g := gS l s) (b := bS l) (K := l.length + 2) (vS u c) (gS_span v s) _ y (psum X * Q) rfl hDQ
  (fun i hi => by
   by_cases g : i < l.length
   ·rw [sd_lo g]; exact hin i g
   ·have e2 : bS l i = 0 := by unfold bS; rw [mtl_ge (by omega)]
    rw [e2, Int.zero_mul]
    obtain rfl | rfl : i = l.length ∨ i = l.length + 1 := by omega
    ·rw [sd_n1]; omega
    ·rw [sd_n2]; omega)
  (fun z E hE hz => by
   rw [vS_at, vS_at, hval]
   have z1 := hz l.length (by omega)
   have z2 := hz (l.length + 1) (by omega)
   have b1 : bS l l.length = 0 := by unfold bS; rw [mtl_ge (by omega)]
   have b2 : bS l (l.length + 1) = 0 := by unfold bS; rw [mtl_ge (by omega)]
   rw [sd_n1, b1, Int.zero_mul] at z1
   rw [sd_n2, b2, Int.zero_mul] at z2
   have hh : hld l s E (z 0) (z 1) (z 2) = true := hld_at.2 fun k hk => by
    have := hz k (by omega)
    rw [sd_lo hk] at this
    have e : bS l k = (mtl l k).p := rfl
    rw [e] at this
    have e1 : z 0 - z 1 * badL (mtl l k) s + z 2 * goodC (mtl l k) s = z 0 - badL (mtl l k) s * z 1 + goodC (mtl l k) s * z 2 := by grind
    rw [e1, Int.mul_comm E]; exact this
   have w := weak_val hh (by omega) (by omega) gx
   unfold valP at w
   have w2 := Int.mul_le_mul_of_nonneg_right w (Int.le_of_lt hQ)
   have e1 : (z 0 - u * z 1 + c * z 2) * (psum X * Q) = (z 0 - z 1 * u + z 2 * c) * psum X * Q := by grind
   have e2 : costN l X l.length * Q * E = E * costN l X l.length * Q := by grind
   rw [e1, e2]; exact w2)
 rw [vS_at, vS_at, hval] at hv'
 obtain ⟨i', k', j', hjk, hki, ⟨hi', ti'⟩, ⟨hk', tk'⟩, ⟨hj', tj'⟩, hd⟩ := sort3 (P := fun i => i < l.length + 2 ∧ sd (gS l s) i y' = bS l i * D') ⟨hi, ti⟩ ⟨hj, tj⟩ ⟨hk, tk⟩ (dN_ne hdet)
 obtain ⟨c0, c1, c2⟩ := cramer (sd_rw ti') (sd_rw tk') (sd_rw tj')
 obtain ⟨σ, hσ, q0, q1, q2, q3⟩ := cnQ_at hd
 have hmem := P1_in hd hjk hki hi'
 generalize cnQ l s i' k' j' = x at *
 generalize dN l s i' k' j' = d at *
 generalize xN l s i' k' j' 0 = x0 at *; generalize xN l s i' k' j' 1 = x1 at *; generalize xN l s i' k' j' 2 = x2 at *
 have r0 : D' * nth x 1 = nth x 0 * y' 0 := by rw [q0, q1]; grind
 have r1 : D' * nth x 2 = nth x 0 * y' 1 := by rw [q0, q2]; grind
 have r2 : D' * nth x 3 = nth x 0 * y' 2 := by rw [q0, q3]; grind
 have hx0 : 0 < nth x 0 := by omega
 have s1 := hin' l.length (by omega)
 have s2 := hin' (l.length + 1) (by omega)
 have b1 : bS l l.length = 0 := by unfold bS; rw [mtl_ge (by omega)]
 have b2 : bS l (l.length + 1) = 0 := by unfold bS; rw [mtl_ge (by omega)]
 rw [sd_n1, b1, Int.zero_mul] at s1
 rw [sd_n2, b2, Int.zero_mul] at s2
 have hg : gdP l s x = true := gdP_iff.2 ⟨by
  have := Int.mul_nonneg (Int.le_of_lt hx0) (show 0 ≤ y' 1 by omega)
  rw [← r1] at this
  exact Int.nonneg_of_mul_nonneg_right this hD', by
  have := Int.mul_nonneg (Int.le_of_lt hx0) (show 0 ≤ y' 2 by omega)
  rw [← r2] at this
  exact Int.nonneg_of_mul_nonneg_right this hD', hld_at.2 fun k hk => by
  have := hin' k (by omega)
  rw [sd_lo hk] at this
  have e : bS l k = (mtl l k).p := rfl
  rw [e] at this
  have w := Int.mul_le_mul_of_nonneg_left this (Int.le_of_lt hx0)
  refine Int.le_of_mul_le_mul_left (a := D') ?_ hD'
  have e1 : D' * (nth x 1 - nth x 2 * badL (mtl l k) s + nth x 3 * goodC (mtl l k) s) = nth x 0 * (y' 0 - badL (mtl l k) s * y' 1 + goodC (mtl l k) s * y' 2) := by
   have : D' * (nth x 1 - nth x 2 * badL (mtl l k) s + nth x 3 * goodC (mtl l k) s) = D' * nth x 1 - (D' * nth x 2) * badL (mtl l k) s + (D' * nth x 3) * goodC (mtl l k) s := by grind
   rw [this, r0, r1, r2]; grind
  rw [e1]
  have e2 : D' * (nth x 0 * (mtl l k).p) = nth x 0 * ((mtl l k).p * D') := by grind
  rw [e2]; exact w⟩
 have hm : mtP l u c s x = true := by
  unfold mtP
  rw [hch, decide_eq_true_eq]
  refine rat_eq hx0 hX ?_
  have e1 : D' * valU u c x = nth x 0 * (y' 0 - u * y' 1 + c * y' 2) := by
   unfold valU
   have : D' * (nth x 1 - nth x 2 * u + nth x 3 * c) = D' * nth x 1 - (D' * nth x 2) * u + (D' * nth x 3) * c := by grind
   rw [this, r0, r1, r2]; grind
  have hp : D' * Q ≠ 0 := by have := Int.mul_pos hD' hQ; omega
  refine Int.eq_of_mul_eq_mul_left hp ?_
  have e2 : D' * Q * (valU u c x * psum X) = (D' * valU u c x) * (psum X * Q) := by grind
  rw [e2, e1]
  have e3 : nth x 0 * (y' 0 - u * y' 1 + c * y' 2) * (psum X * Q) = nth x 0 * ((y' 0 - u * y' 1 + c * y' 2) * (psum X * Q)) := by grind
  rw [e3, hv']
  grind
 unfold prF
 rw [List.find?_isSome]
 obtain ⟨p, hp, rfl⟩ := List.mem_map.1 hmem
 exact ⟨p.1, List.mem_map.2 ⟨p, List.mem_filter.2 ⟨hp, hg⟩, rfl⟩, hm⟩
theorem bdK_pf {x : List Int} (h : BdK x) (h1 : 0 ≤ nth x 2) (h2 : 0 ≤ nth x 3) : isPf (nth x 1) (nth x 2) (nth x 3) = true := by
 obtain ⟨_, a, b, c⟩ := h
 exact isPf_iff.2 ⟨a, ⟨h1, b.2⟩, h2, c.2⟩
theorem pr_spec {l : List Met} {u c : Int} (hB : chkB l u c = 0) (s : Bool) :
 (cheE l u c s = 0 → proEr l u c s = 0 ∧ prfE l u c s (nth (proX l u c s) 0) (nth (proX l u c s) 1) (nth (proX l u c s) 2) (nth (proX l u c s) 3) = 0 ∧ prfNE l u c s (nth (proX l u c s) 0) (nth (proX l u c s) 1) (nth (proX l u c s) 2) (nth (proX l u c s) 3) = lstN l u c s ∧ prfDE l u c s (nth (proX l u c s) 0) (nth (proX l u c s) 1) (nth (proX l u c s) 2) (nth (proX l u c s) 3) = lstD l u c s ∧ BdK (proX l u c s)) ∧
 (¬ cheE l u c s = 0 → proEr l u c s = cheE l u c s ∧ proX l u c s = [0, 0, 0, 0]) := by
 obtain ⟨v, hu, hc⟩ := chkB_ok hB
 constructor
 ·intro h
  have hs := prF_some hB h
  obtain ⟨x, hx⟩ := Option.isSome_iff_exists.1 hs
  have e : proX l u c s = x := by unfold proX; rw [if_pos h, hx]; rfl
  have h1 : mtP l u c s x = true := by unfold prF at hx; exact List.find?_some hx
  have h2 : x ∈ (prL l s).map Prod.fst := by unfold prF at hx; exact List.mem_of_find?_eq_some hx
  have gp := prL_gp v s h2
  obtain ⟨p, hp, e2⟩ := List.mem_map.1 h2
  have hg := (List.mem_filter.1 hp).2
  rw [e2] at hg
  obtain ⟨g1, g2, g3⟩ := gdP_iff.1 hg
  have hE : prfE l u c s (nth x 0) (nth x 1) (nth x 2) (nth x 3) = 0 := by
   unfold prfE
   rw [if_neg (fun e => e hB), if_neg (fun e => e ⟨by unfold dnB; rw [Bool.and_eq_true, decide_eq_true_eq, decide_eq_true_eq]; exact ⟨gp.2, gp.1.1.2⟩, bdK_pf gp.1 g1 g2⟩), if_pos g3]
  unfold mtP at h1
  rw [decide_eq_true_eq] at h1
  rw [e]
  refine ⟨by unfold proEr; rw [if_pos h, hs]; rfl, hE, ?_, ?_, gp.1⟩
  ·unfold prfNE lstN; rw [if_pos hE, if_pos h]; exact h1.1
  ·unfold prfDE lstD; rw [if_pos hE, if_pos h]; exact h1.2
 ·intro h
  exact ⟨by unfold proEr; rw [if_neg h], by unfold proX; rw [if_neg h]⟩
theorem prf_le {l : List Met} {u c : Int} {s : Bool} {d b le co : Int} (h : prfE l u c s d b le co = 0) {x : List Int} (g : Gx l u c s x) : 0 < d ∧ valP u c b le co * psum x ≤ d * costN l x l.length := by
 unfold prfE at h
 by_cases g0 : ¬ chkB l u c = 0
 ·rw [if_pos g0] at h; exact absurd h g0
 rw [if_neg g0] at h
 by_cases g1 : dnB d = true ∧ isPf b le co = true
 ·rw [if_neg (fun e => e g1)] at h
  by_cases g2 : hld l s d b le co = true
  ·obtain ⟨p1, p2, p3⟩ := isPf_iff.1 g1.2
   have := g1.1
   unfold dnB at this
   rw [Bool.and_eq_true, decide_eq_true_eq, decide_eq_true_eq] at this
   exact ⟨by omega, weak_val g2 p2.1 p3.1 g⟩
  ·rw [if_neg g2] at h; cases h
 ·rw [if_pos g1] at h; cases h
theorem mle {p q B : Int} (hp : 0 ≤ p) (hq : q ≤ B) : p * q ≤ B * p := by
 have := Int.mul_le_mul_of_nonneg_left hq hp
 rw [Int.mul_comm B p]; exact this
theorem cross_le {u c a1 b1 a2 b2 : Int} (hu : 0 ≤ u ∧ u ≤ 1000) (hc : 0 ≤ c ∧ c ≤ 1000) (h1 : -u ≤ a1 ∧ a1 ≤ 1000 - u) (h2 : -u ≤ b1 ∧ b1 ≤ 1000 - u) (h3 : c - 1000 ≤ a2 ∧ a2 ≤ c) (h4 : c - 1000 ≤ b2 ∧ b2 ≤ c) : a1 * b2 - a2 * b1 ≤ 1000000 := by
 have n1 : ∀ p q : Int, 0 ≤ p → q ≤ 0 → p * q ≤ 0 := fun p q hp hq => Int.mul_nonpos_of_nonneg_of_nonpos hp hq
 have n2 : ∀ p q : Int, 0 ≤ p → 0 ≤ q → 0 ≤ p * q := fun p q hp hq => Int.mul_nonneg hp hq
 rcases Int.le_total 0 a1 with s1 | s1 <;> rcases Int.le_total 0 b2 with s4 | s4 <;> rcases Int.le_total 0 a2 with s3 | s3 <;> rcases Int.le_total 0 b1 with s2 | s2
 ·have := n2 _ _ s3 s2; have := mle (B := 1000) s1 (show b2 ≤ 1000 by omega); omega
 ·have e : a2 * b1 = - (-b1 * a2) := by grind
  have := mle (B := 1000) s1 (show b2 ≤ 1000 by omega); have := mle (B := 1000) (show 0 ≤ -b1 by omega) (show a2 ≤ 1000 by omega); omega
 ·have e : a2 * b1 = - (-a2 * b1) := by grind
  have e2 : a1 * b2 = b2 * a1 := by grind
  have := mle (B := 1000) s4 (show a1 ≤ 1000 by omega); have := mle (B := 1000) (show 0 ≤ -a2 by omega) (show b1 ≤ 1000 by omega); omega
 ·have e : a2 * b1 = (-a2) * (-b1) := by grind
  have := n2 (-a2) (-b1) (by omega) (by omega); have := mle (B := 1000) s1 (show b2 ≤ 1000 by omega); omega
 ·have := n1 _ _ s1 s4; have := n2 _ _ s3 s2; omega
 ·have e : a2 * b1 = - (-b1 * a2) := by grind
  have := n1 _ _ s1 s4; have := mle (B := 1000) (show 0 ≤ -b1 by omega) (show a2 ≤ 1000 by omega); omega
 ·have e : a2 * b1 = - (-a2 * b1) := by grind
  have := n1 _ _ s1 s4; have := mle (B := 1000) (show 0 ≤ -a2 by omega) (show b1 ≤ 1000 by omega); omega
 ·have e : a2 * b1 = (-a2) * (-b1) := by grind
  have := n1 _ _ s1 s4; have := n2 (-a2) (-b1) (by omega) (by omega); omega
 ·have e2 : a1 * b2 = b2 * a1 := by grind
  have := n1 _ _ s4 s1; have := n2 _ _ s3 s2; omega
 ·have e2 : a1 * b2 = b2 * a1 := by grind
  have e : a2 * b1 = - (-b1 * a2) := by grind
  have := n1 _ _ s4 s1; have := mle (B := 1000) (show 0 ≤ -b1 by omega) (show a2 ≤ 1000 by omega); omega
 ·have e2 : a1 * b2 = b2 * a1 := by grind
  have e : a2 * b1 = - (-a2 * b1) := by grind
  have := n1 _ _ s4 s1; have := mle (B := 1000) (show 0 ≤ -a2 by omega) (show b1 ≤ 1000 by omega); omega
 ·have e2 : a1 * b2 = b2 * a1 := by grind
  have e : a2 * b1 = (-a2) * (-b1) := by grind
  have := n1 _ _ s4 s1; have := n2 (-a2) (-b1) (by omega) (by omega); omega
 ·have e2 : a1 * b2 = (-a1) * (-b2) := by grind
  have := n2 _ _ s3 s2; have := mle (B := 1000) (show 0 ≤ -a1 by omega) (show -b2 ≤ 1000 by omega); omega
 ·have e2 : a1 * b2 = (-b2) * (-a1) := by grind
  have e : a2 * b1 = - (a2 * -b1) := by grind
  have := mle (B := 1000) (show 0 ≤ -b2 by omega) (show -a1 ≤ 1000 by omega); have := mle (B := 1000) s3 (show -b1 ≤ 1000 by omega); omega
 ·have e2 : a1 * b2 = (-a1) * (-b2) := by grind
  have e : a2 * b1 = - (b1 * -a2) := by grind
  have := mle (B := 1000) (show 0 ≤ -a1 by omega) (show -b2 ≤ 1000 by omega); have := mle (B := 1000) s2 (show -a2 ≤ 1000 by omega); omega
 ·have e2 : a1 * b2 = (-a1) * (-b2) := by grind
  have e : a2 * b1 = (-a2) * (-b1) := by grind
  have := n2 (-a2) (-b1) (by omega) (by omega); have := mle (B := 1000) (show 0 ≤ -a1 by omega) (show -b2 ≤ 1000 by omega); omega
theorem absI_le {x B : Int} (h1 : x ≤ B) (h2 : -x ≤ B) : absI x ≤ B := by unfold absI; split <;> omega
theorem out_le {n : Nat} {t : List Nat} {p : List Int} {B : Int} (hB : 0 ≤ B) (h : ∀ k, k < p.length → absI (nth p k) ≤ B) (i : Nat) : ∀ K, K ≤ p.length → nth (outN n t p K) i ≤ B
 | 0, _ => by
  have : nth (outN n t p 0) i = 0 := by simp [outN, nth, List.getElem?_replicate]; split <;> rfl
  omega
 | K + 1, hK => by
  simp only [outN]
  rw [nth_set_]
  split
  ·exact h K (by omega)
  ·exact out_le hB h i K (by omega)
theorem putL_le {n : Nat} {t : List Nat} {p : List Int} {B : Int} (n1 : 1 ≤ n) (hl : (putL n t p).length = n) (hB : 0 ≤ B) (h : ∀ k, k < p.length → absI (nth p k) ≤ B) (i : Nat) : nth (putL n t p) i ≤ B := by
 rw [(putL_out n1 hl).1]
 exact out_le hB h i _ (Nat.le_refl _)
theorem exA_rg {l : List Met} (v : VldM l) (u c : Int) (s : Bool) (i : Nat) : -u ≤ exA l u c s i ∧ exA l u c s i ≤ 1000 - u := by
 have := badL_bd v s i
 have e : exA l u c s i = badL (mtl l i) s - u := by simp [exA, spr]
 omega
theorem exC_rg {l : List Met} (v : VldM l) (u c : Int) (s : Bool) (i : Nat) : c - 1000 ≤ exC l u c s i ∧ exC l u c s i ≤ c := by
 have := goodC_bd v s i
 have e : exC l u c s i = c - goodC (mtl l i) s := by simp [exC, spr]
 omega
theorem edg_le {l : List Met} (v : VldM l) {u c : Int} (hu : 0 ≤ u ∧ u ≤ 1000) (hc : 0 ≤ c ∧ c ≤ 1000) {s : Bool} {x : List Int} (h : x ∈ edg l u c s) (i : Nat) : nth x i ≤ 1000000 := by
 obtain ⟨ok, _, hF⟩ := edg_ok v hu hc h
 have hA := exA_rg v u c s
 have hC := exC_rg v u c s
 have hl := ok.len
 rcases hF with ⟨q, hq, rfl⟩ | ⟨b, a, hab, hb, rfl | rfl⟩ | ⟨d, b, a, hab, hbd, hd, rfl⟩
 ·refine putL_le (B := 1000000) v.n1 hl (by decide) (fun k hk => ?_) i
  obtain rfl : k = 0 := by simpa using hk
  decide
 ·refine putL_le (B := 1000000) v.n1 hl (by decide) (two_cases ?_ ?_) i
  ·have := hA a; exact absI_le (by show exA l u c s a ≤ _; omega) (by show - exA l u c s a ≤ _; omega)
  ·have := hA b; exact absI_le (by show - exA l u c s b ≤ _; omega) (by show - - exA l u c s b ≤ _; omega)
 ·refine putL_le (B := 1000000) v.n1 hl (by decide) (two_cases ?_ ?_) i
  ·have := hC a; exact absI_le (by show exC l u c s a ≤ _; omega) (by show - exC l u c s a ≤ _; omega)
  ·have := hC b; exact absI_le (by show - exC l u c s b ≤ _; omega) (by show - - exC l u c s b ≤ _; omega)
 ·have cr : ∀ p q, absI (exA l u c s p * exC l u c s q - exC l u c s p * exA l u c s q) ≤ 1000000 := fun p q => by
   have h1 := cross_le hu hc (hA p) (hA q) (hC p) (hC q)
   have h2 := cross_le hu hc (hA q) (hA p) (hC q) (hC p)
   refine absI_le h1 ?_
   rw [show -(exA l u c s p * exC l u c s q - exC l u c s p * exA l u c s q) = exA l u c s q * exC l u c s p - exC l u c s q * exA l u c s p by grind]
   exact h2
  exact putL_le (B := 1000000) v.n1 hl (by decide) (three_cases (cr b a) (cr a d) (cr d b)) i
theorem edg_vld {l : List Met} (v : VldM l) {u c : Int} (hu : 0 ≤ u ∧ u ≤ 1000) (hc : 0 ≤ c ∧ c ≤ 1000) {s : Bool} {x : List Int} (h : x ∈ edg l u c s) : VldX x l.length :=
 let ok := (edg_ok v hu hc h).1
 ⟨ok.len, fun i => (ok.prt i).1, edg_le v hu hc h, ok.pos⟩
theorem lst_zero (l : List Met) (u c : Int) (s : Bool) (h : ¬ cheE l u c s = 0) : lstN l u c s = 0 ∧ lstD l u c s = 0 := by
 unfold lstN lstD
 rw [if_neg h, if_neg h]
 exact ⟨rfl, rfl⟩
theorem chp_vld {l : List Met} {u c : Int} (hB : chkB l u c = 0) {s : Bool} (h : cheE l u c s = 0) : VldX (chpL l u c s) l.length ∧ psum (chpL l u c s) ≤ 6000000 := by
 obtain ⟨v, hu, hc⟩ := chkB_ok hB
 have vx := edg_vld v hu hc (chp_gx hB h).2
 exact ⟨vx, psum_le v.n6 vx.len vx.le vx.nn⟩
theorem lst_ok {l : List Met} {u c : Int} (hB : chkB l u c = 0) (s : Bool) (h : cheE l u c s = 0) : OkS (lstN l u c s) (lstD l u c s) := by
 obtain ⟨v, hu, hc⟩ := chkB_ok hB
 obtain ⟨vx, hp⟩ := chp_vld hB h
 unfold lstN lstD
 rw [if_pos h, if_pos h]
 exact cost_small v vx hp
theorem gx_of {l : List Met} {u c : Int} {s : Bool} {x : List Int} (vx : VldX x l.length) (h : isG l u c s x = true) : Gx l u c s x := ⟨vx.len, vx.nn, vx.ps, h⟩
theorem des_of {l : List Met} {u c : Int} (hB : chkB l u c = 0) {s : Bool} {x : List Int} (vx : VldX x l.length) : desE l u c s x = if isG l u c s x = true then 0 else 17 := by
 unfold desE; rw [if_neg (fun h => h hB), if_neg (by rw [mixE_ok.2 vx]; decide)]
theorem gx_des {l : List Met} {u c : Int} (hB : chkB l u c = 0) {s : Bool} {x : List Int} (vx : VldX x l.length) : desE l u c s x = 0 ↔ Gx l u c s x := by
 rw [des_of hB vx]
 constructor
 ·intro h
  by_cases g : isG l u c s x = true
  ·exact gx_of vx g
  ·rw [if_neg g] at h; cases h
 ·intro g; rw [if_pos g.gd]
theorem des_two {l : List Met} {u c : Int} (hB : chkB l u c = 0) (s : Bool) {x : List Int} (vx : VldX x l.length) : desE l u c s x = 0 ∨ desE l u c s x = 17 := by
 rw [des_of hB vx]; split
 ·exact .inl rfl
 ·exact .inr rfl
theorem lst_le {l : List Met} {u c : Int} (hB : chkB l u c = 0) {s : Bool} {x : List Int} (g : Gx l u c s x) : cheE l u c s = 0 ∧ lessB (ratN (costN l x l.length) (psum x)) (ratD (costN l x l.length) (psum x)) (lstN l u c s) (lstD l u c s) = false := by
 have h := (gx_che hB s).2 ⟨x, g⟩
 refine ⟨h, ?_⟩
 have g2 := (chp_gx hB h).1
 unfold lstN lstD
 rw [if_pos h, if_pos h]
 unfold csN csD
 rw [rat_lt g.ps g2.ps, decide_eq_false_iff_not]
 have := chp_le hB h g
 omega
theorem cost_le {l : List Met} (v : VldM l) {x : List Int} (nn : ∀ i, 0 ≤ nth x i) (hl : x.length = l.length) : costN l x l.length ≤ 1000 * psum x := by
 have h : costN l x l.length ≤ sm l.length (fun i => 1000 * nth x i) := sm_le fun i _ => by
  have := Int.mul_le_mul_of_nonneg_left (v.pr i).2 (nn i)
  omega
 rw [sm_mul] at h
 unfold psum; rw [hl]; exact h
theorem prf_small {l : List Met} {u c : Int} {s : Bool} {d b le co : Int} (hB : chkB l u c = 0) (hE : prfE l u c s d b le co = 0) (h : cheE l u c s = 0) :
 (1 ≤ prfDE l u c s d b le co ∧ prfDE l u c s d b le co ≤ 1073741824) ∧ prfNE l u c s d b le co ≤ 1000 * prfDE l u c s d b le co ∧ prfNE l u c s d b le co * lstD l u c s ≤ lstN l u c s * prfDE l u c s d b le co := by
 obtain ⟨v, hu, hc⟩ := chkB_ok hB
 have g := (chp_gx hB h).1
 obtain ⟨hd, hle⟩ := prf_le hE g
 have hd2 : d ≤ 1073741824 := by
  refine Classical.byContradiction fun h' => ?_
  have hdn : ¬ (dnB d = true ∧ isPf b le co = true) := fun e => by
   have := e.1
   unfold dnB at this
   rw [Bool.and_eq_true, decide_eq_true_eq, decide_eq_true_eq] at this
   omega
  unfold prfE at hE
  rw [if_neg (fun e => e hB), if_pos hdn] at hE
  cases hE
 have hc2 := cost_le v g.nn g.len
 unfold prfDE prfNE lstD lstN
 rw [if_pos hE, if_pos hE, if_pos h, if_pos h]
 have k := ratD_bd (a := valP u c b le co) hd
 refine ⟨⟨k.1, by omega⟩, ?_, ?_⟩
 ·have h1 := Int.mul_le_mul_of_nonneg_left hc2 (Int.le_of_lt hd)
  have h2 : valP u c b le co * psum (chpL l u c s) ≤ 1000 * d * psum (chpL l u c s) := by
   rw [show 1000 * d * psum (chpL l u c s) = d * (1000 * psum (chpL l u c s)) by grind]
   exact Int.le_trans hle h1
  have h3 := Int.le_of_mul_le_mul_right h2 g.ps
  obtain ⟨e1, e2, e3⟩ := rat_spec (valP u c b le co) hd
  have hg := gcd_pos (a := valP u c b le co) hd
  generalize (Int.gcd (valP u c b le co) d : Int) = G at *
  refine Int.le_of_mul_le_mul_right (a := G) ?_ hg
  rw [← e1, show 1000 * ratD (valP u c b le co) d * G = 1000 * (ratD (valP u c b le co) d * G) by grind, ← e2]
  exact h3
 ·have := rat_lt (p := costN l (chpL l u c s) l.length) (q := psum (chpL l u c s)) (r := valP u c b le co) (s := d) g.ps hd
  rw [decide_eq_false (show ¬ costN l (chpL l u c s) l.length * d < valP u c b le co * psum (chpL l u c s) by rw [Int.mul_comm (costN l (chpL l u c s) l.length)]; omega)] at this
  unfold lessB at this
  rw [decide_eq_false_iff_not] at this
  unfold csD csN
  omega
theorem quo_small {n m : Int} (hm : 1 ≤ m) (h : n ≤ 1000 * m) (h0 : 0 ≤ n) : ¬ 1000 < n.tdiv m := by
 rw [Int.tdiv_eq_ediv_of_nonneg h0]
 have := Int.ediv_le_of_le_mul (a := n) (b := 1000) (c := m) (by omega) h
 omega
theorem quo_neg {n m : Int} (hm : 1 ≤ m) (h0 : n < 0) : n.tdiv m ≤ 0 := by
 have := Int.neg_tdiv n m
 have h1 := Int.tdiv_nonneg (a := -n) (b := m) (by omega) (by omega)
 omega
theorem ratN_ge {a b B : Int} (hb : 0 < b) (h : -B ≤ a) (hB : 0 ≤ B) : -B ≤ ratN a b := by
 obtain ⟨e1, e2, e3⟩ := rat_spec a hb
 have hg := gcd_pos (a := a) hb
 generalize (Int.gcd a b : Int) = G at *
 refine Classical.byContradiction fun hc => ?_
 have h1 : ratN a b ≤ -B - 1 := by omega
 have h2 := Int.mul_le_mul_of_nonneg_right h1 (Int.le_of_lt hg)
 rw [← e1] at h2
 have h3 : (-B - 1) * G ≤ (-B - 1) * 1 := Int.mul_le_mul_of_nonpos_left (by omega) (by omega)
 omega
theorem prf_lo {l : List Met} {u c : Int} {s : Bool} {d b le co : Int} (hB : chkB l u c = 0) : -1000000000000000 ≤ prfNE l u c s d b le co := by
 obtain ⟨v, hu, hc⟩ := chkB_ok hB
 unfold prfNE
 by_cases hE : prfE l u c s d b le co = 0
 ·rw [if_pos hE]
  unfold prfE at hE
  rw [if_neg (fun e => e hB)] at hE
  by_cases g1 : dnB d = true ∧ isPf b le co = true
  ·have hd := g1.1
   unfold dnB at hd
   rw [Bool.and_eq_true, decide_eq_true_eq, decide_eq_true_eq] at hd
   exact ratN_ge (by omega) (valP_bd hu hc g1.2).1 (by decide)
  ·rw [if_pos g1] at hE; cases hE
 ·rw [if_neg hE]; decide
theorem tdiv_lo {n m : Int} (hm : 1 ≤ m) (h : -1000000000000000 ≤ n) : -9223372036854775808 ≤ n.tdiv m := by
 rcases Int.lt_or_le n 0 with g | g
 ·have h1 := Int.neg_tdiv n m
  have h2 := Int.tdiv_eq_ediv_of_nonneg (a := -n) (b := m) (by omega)
  have h3 := Int.ediv_le_self (a := -n) m (by omega)
  omega
 ·have := Int.tdiv_nonneg (a := n) (b := m) g (by omega)
  omega
theorem mul_6 {a b : Int} (ha : 0 ≤ a ∧ a ≤ 6000000000) (hb : 1 ≤ b ∧ b ≤ 1073741824) : -9223372036854775808 ≤ a * b ∧ a * b ≤ 9223372036854775807 := by
 have h1 := Int.mul_le_mul_of_nonneg_left hb.2 ha.1
 have h2 := Int.mul_nonneg ha.1 (show 0 ≤ b by omega)
 omega
theorem quo_all {n m : Int} (hm : 1 ≤ m) (h : n ≤ 1000 * m) (h0 : -1000000000000000 ≤ n) : ¬ 1000 < n.tdiv m ∧ -9223372036854775808 ≤ n.tdiv m ∧ n.tdiv m ≤ 9223372036854775807 := by
 have h1 := tdiv_lo hm h0
 have h2 : ¬ 1000 < n.tdiv m := by
  rcases Int.lt_or_le n 0 with g | g
  ·have := quo_neg hm g; omega
  ·exact quo_small hm h g
 exact ⟨h2, h1, by omega⟩
set_option maxHeartbeats 4000000 in
theorem leastL_any (l : List Met) (q : FitM l) {u c : Int} (hB : chkB l u c = 0) (a : Option Addr) (cap : Nat) (iu : I64 u) (ic : I64 c) (s : Bool) (w : World) (hM : Mts w a l) :
 Calls Try.prog 44 #[.slice a l.length cap, (.agg #[.int .i64 (u), .int .i64 (c)]), .bool s] w fun e w' => e = .returned (.tuple #[(.agg #[.int .i64 (lstN l u c s), .int .i64 (lstD l u c s)]), .bool (decide (cheE l u c s = 0)), .bool true]) ∧ Ext w w' := by
 obtain ⟨v, hu, hc⟩ := chkB_ok hB
 have n6 := v.n6
 have hle := hid (fun W hW => least_any l q (by omega) a cap u c iu ic s W hW)
 have heq : ∀ (p q : Int) w, (Op.equalIn 10000 29 (.agg #[.int .i64 p, .int .i64 q]) (.agg #[.int .i64 p, .int .i64 q])).run Try.prog w = .ok true w := fun p q w => by rw [run_eqRatio]; simp
 have hz := lst_zero l u c s
 have hok := lst_ok hB s
 replace hM := hid hM
 obtain ⟨N, hN⟩ : ∃ z, lstN l u c s = z := ⟨_, rfl⟩
 obtain ⟨D, hD⟩ : ∃ z, lstD l u c s = z := ⟨_, rfl⟩
 rw [hN, hD] at hle hz hok ⊢
 rcases che_two hB s with g | g
 ·rw [g] at hle ⊢
  have k := hok g
  have hsm := hid (fun W => smallL_any N D k W)
  clear q v hu hc hB n6 hN hD hz hok k g
  go_enter Try.func44, Try.ntmps44
  go_wp2_with fail
  refine name_c (fun w0 hw0 => ?_)
  have X := hid (show Ext w w0 by rw [hw0]; exact exE)
  have rb := hid (show Bx2 w0 (w.heap.size + 1) 0 0 from ⟨by rw [hw0]; simp [go_sem], by rw [hw0]; simp [go_sem], by rw [hw0]; simp [go_sem], by rw [hw0]; simp [go_sem]⟩)
  clear hw0
  obtain ⟨B, hB⟩ : ∃ B, w.heap.size + 1 = B := ⟨_, rfl⟩
  rw [hB] at rb ⊢
  have hBB := hid (show w.heap.size ≤ B by omega)
  clear hB
  refine (hle.out _ (hM.out.ext X.out)).mono ?_; rintro e u1 ⟨rfl, hE⟩
  replace X := hid (X.out.trans hE)
  replace rb := hid (rb.out.ext hE)
  clear hE hle
  have lB := rb.out.lt
  go_upto_region 4 with (fail)
  refine name_wp (fun v1 hv => ?_)
  have x1 : Ext u1 v1 := by rw [hv]; exact exE
  have b0 : v1.cell? ⟨u1.heap.size, 0, none⟩ = some (.int .i64 N) := by rw [hv]; simp [go_sem]
  have b1 : v1.cell? ⟨u1.heap.size, 1, none⟩ = some (.int .i64 D) := by rw [hv]; simp [go_sem]
  have rb1 := rb.out.ext x1
  have xw := X.out.trans x1
  have hBl := rb.out.lt
  clear hv X x1 rb lB
  obtain ⟨C, hC⟩ : ∃ B, u1.heap.size = B := ⟨_, rfl⟩
  rw [hC] at b0 b1 hBl ⊢
  clear hC
  have hBn := hBB.out
  refine wp_mono (Q := calmS _) ?_ calmS_of
  refine wp_region_held_drew (S := fun w' => Ext w w' ∧ w'.cell? ⟨C, 0, none⟩ = some (.int .i64 N) ∧ w'.cell? ⟨C, 1, none⟩ = some (.int .i64 D)) (by kernel_rfl) ⟨xw.trans exE, (show Ext v1 _ from exE).cell b0, (show Ext v1 _ from exE).cell b1⟩ fun hHeld => ?_
  (refine tkA (i := 0) (v := ?_) rfl (fun _ _ _ h => h) (Or.inl ⟨by rfl, ?yl⟩) (by assumption) ?_; (case yl => ((intro w hSw; (try dsimp only at hSw); obtain ⟨_, kk0, kk1⟩ := hSw; go_simp); with_reducible rfl)); (try simp only [sxA, sxB, sxC, Act.put, sxD, sxE, sxF]))
  (refine tkA (i := 1) (v := ?_) rfl (fun _ _ _ h => h) (Or.inl ⟨by rfl, ?yl⟩) (by assumption) ?_; (case yl => ((intro w hSw; (try dsimp only at hSw); obtain ⟨_, kk0, kk1⟩ := hSw; go_simp); with_reducible rfl)); (try simp only [sxA, sxB, sxC, Act.put, sxD, sxE, sxF]))
  (refine tkA (i := 2) (v := ?_) rfl (fun _ _ _ h => h) (Or.inl ⟨by rfl, ?yl⟩) (by assumption) ?_; (case yl => ((intro w hSw; (try dsimp only at hSw); obtain ⟨_, kk0, kk1⟩ := hSw; go_simp); with_reducible rfl)); (try simp only [sxA, sxB, sxC, Act.put, sxD, sxE, sxF]))
  (refine tkA (i := 3) (v := ?_) rfl (fun _ _ _ h => h) (Or.inl ⟨by rfl, ?yl⟩) (by assumption) ?_; (case yl => ((intro w hSw; (try dsimp only at hSw); obtain ⟨_, kk0, kk1⟩ := hSw; go_simp); with_reducible rfl)); (try simp only [sxA, sxB, sxC, Act.put, sxD, sxE, sxF]))
  (refine tkA (i := 4) (v := ?_) rfl (fun _ _ _ h => h) (Or.inl ⟨by rfl, ?yl⟩) (by assumption) ?_; (case yl => ((intro w hSw; (try dsimp only at hSw); obtain ⟨_, kk0, kk1⟩ := hSw; go_simp); with_reducible rfl)); (try simp only [sxA, sxB, sxC, Act.put, sxD, sxE, sxF]))
  (refine wpAnyH_ready (rs := [5]) (by kernel_rfl) (by simp) ?_; refine AllReadyH.cons (o := _) rfl (fun K hK => ?_) AllReadyH.nil)
  go_simp
  refine (hsm.out _).mono ?_; rintro e w5 ⟨rfl, hE5⟩
  have x5 : Ext v1 w5 := exE
  refine hK.out _ _ ⟨xw.trans x5, x5.cell b0, x5.cell b1⟩ (fun hHeld => ?_)
  clear hK K
  (try simp only [sxA, sxB, sxC, Act.put, sxD, sxE, sxF])
  (refine tkA (i := 6) (v := ?_) rfl (fun _ _ _ h => h) (Or.inl ⟨by rfl, ?yl⟩) (by assumption) ?_; (case yl => ((intro w hSw; (try dsimp only at hSw); obtain ⟨_, kk0, kk1⟩ := hSw; go_simp); with_reducible rfl)); (try simp only [sxA, sxB, sxC, Act.put, sxD, sxE, sxF]))
  (refine wpAnyH_ready (rs := [7]) (by kernel_rfl) (by simp) ?_; refine AllReadyH.cons (o := _) rfl (fun K hK => ?_) AllReadyH.nil)
  have A6 := rb1.ext x5
  obtain ⟨c0, c1, g0, g1⟩ := A6
  have y0 := cell_lt c0
  dsimp only at y0
  go_simp
  obtain ⟨w7, hw7⟩ : ∃ w7, w7 = (w5.setCell ⟨B, 0, none⟩ (.int .i64 N)).setCell ⟨B, 1, none⟩ (.int .i64 D) := ⟨_, rfl⟩
  have X5 := xw.trans x5
  have X7 : Ext w w7 := by rw [hw7]; exact exE
  have b07 : w7.cell? ⟨C, 0, none⟩ = some (.int .i64 N) := by rw [hw7]; exact box_put (by omega) (box_put (by omega) (x5.cell b0))
  have b17 : w7.cell? ⟨C, 1, none⟩ = some (.int .i64 D) := by rw [hw7]; exact box_put (by omega) (box_put (by omega) (x5.cell b1))
  have A7 : Bx2 w7 B N D := by rw [hw7]; exact Bx2.store ⟨c0, c1, g0, g1⟩ _ _
  rw [← hw7]
  clear hw7
  refine hK.out _ _ ⟨X7, b07, b17⟩ (fun hHeld => ?_)
  clear hK K
  clear c0 c1 g0 g1 y0 x5 hE5
  (try simp only [sxA, sxB, sxC, Act.put, sxD, sxE, sxF])
  (refine tkA (i := 8) (v := ?_) rfl (fun _ _ _ h => h) (Or.inl ⟨by rfl, ?yl⟩) (by assumption) ?_; (case yl => ((intro w hSw; (try dsimp only at hSw); obtain ⟨_, kk0, kk1⟩ := hSw; go_simp); with_reducible rfl)); (try simp only [sxA, sxB, sxC, Act.put, sxD, sxE, sxF]))
  (refine tkA (i := 9) (v := ?_) rfl (fun _ _ _ h => h) (Or.inl ⟨by rfl, ?yl⟩) (by assumption) ?_; (case yl => ((intro w hSw; (try dsimp only at hSw); obtain ⟨_, kk0, kk1⟩ := hSw; go_simp); with_reducible rfl)); (try simp only [sxA, sxB, sxC, Act.put, sxD, sxE, sxF]))
  refine wpAnyH_done (by kernel_rfl) ?_ _
  obtain ⟨c0, c1, _, _⟩ := A7
  simp only [calmS]
  go_wp2_with fail
  refine bodyPost_ret (v := .tuple #[(.agg #[.int .i64 (N), .int .i64 (D)]), .bool true, .bool true]) ?_ rfl ⟨rfl, X7⟩
  simp [results, Try.results44, go_sem, *]
 ·have hz := hz (by rw [g]; decide)
  obtain ⟨rfl, rfl⟩ := hz
  rw [g] at hle ⊢
  clear q v hu hc hB n6 hN hD hok g
  go_enter Try.func44, Try.ntmps44
  go_wp2_with fail
  refine name_c (fun w0 hw0 => ?_)
  have X := hid (show Ext w w0 by rw [hw0]; exact exE)
  have rb := hid (show Bx2 w0 (w.heap.size + 1) 0 0 from ⟨by rw [hw0]; simp [go_sem], by rw [hw0]; simp [go_sem], by rw [hw0]; simp [go_sem], by rw [hw0]; simp [go_sem]⟩)
  clear hw0
  obtain ⟨B, hB⟩ : ∃ B, w.heap.size + 1 = B := ⟨_, rfl⟩
  rw [hB] at rb ⊢
  have hBB := hid (show w.heap.size ≤ B by omega)
  clear hB
  refine (hle.out _ (hM.out.ext X.out)).mono ?_; rintro e u1 ⟨rfl, hE⟩
  replace X := hid (X.out.trans hE)
  replace rb := hid (rb.out.ext hE)
  clear hE hle
  have lB := rb.out.lt
  go_upto_region 3 with (fail)
  refine name_wp (fun v1 hv => ?_)
  have x1 : Ext u1 v1 := by rw [hv]; exact exE
  have b0 : v1.cell? ⟨u1.heap.size, 0, none⟩ = some (.int .i64 0) := by rw [hv]; simp [go_sem]
  have b1 : v1.cell? ⟨u1.heap.size, 1, none⟩ = some (.int .i64 0) := by rw [hv]; simp [go_sem]
  have rb1 := rb.out.ext x1
  have xw := X.out.trans x1
  have hBl := rb.out.lt
  clear hv X x1 rb lB
  obtain ⟨C, hC⟩ : ∃ B, u1.heap.size = B := ⟨_, rfl⟩
  rw [hC] at b0 b1 hBl ⊢
  clear hC
  have hBn := hBB.out
  refine wp_mono (Q := calmS _) ?_ calmS_of
  refine wp_region_held_drew (S := fun w' => Ext w w' ∧ w'.cell? ⟨C, 0, none⟩ = some (.int .i64 0) ∧ w'.cell? ⟨C, 1, none⟩ = some (.int .i64 0)) (by kernel_rfl) ⟨xw.trans exE, (show Ext v1 _ from exE).cell b0, (show Ext v1 _ from exE).cell b1⟩ fun hHeld => ?_
  (refine tkA (i := 0) (v := ?_) rfl (fun _ _ _ h => h) (Or.inl ⟨by rfl, ?yl⟩) (by assumption) ?_; (case yl => ((intro w hSw; (try dsimp only at hSw); obtain ⟨_, kk0, kk1⟩ := hSw; go_simp); with_reducible rfl)); (try simp only [sxA, sxB, sxC, Act.put, sxD, sxE, sxF]))
  (refine tkA (i := 1) (v := ?_) rfl (fun _ _ _ h => h) (Or.inl ⟨by rfl, ?yl⟩) (by assumption) ?_; (case yl => ((intro w hSw; (try dsimp only at hSw); obtain ⟨_, kk0, kk1⟩ := hSw; go_simp); with_reducible rfl)); (try simp only [sxA, sxB, sxC, Act.put, sxD, sxE, sxF]))
  (refine tkA (i := 2) (v := ?_) rfl (fun _ _ _ h => h) (Or.inl ⟨by rfl, ?yl⟩) (by assumption) ?_; (case yl => ((intro w hSw; (try dsimp only at hSw); obtain ⟨_, kk0, kk1⟩ := hSw; go_simp); with_reducible rfl)); (try simp only [sxA, sxB, sxC, Act.put, sxD, sxE, sxF]))
  (refine tkA (i := 3) (v := ?_) rfl (fun _ _ _ h => h) (Or.inl ⟨by rfl, ?yl⟩) (by assumption) ?_; (case yl => ((intro w hSw; (try dsimp only at hSw); obtain ⟨_, kk0, kk1⟩ := hSw; go_simp); with_reducible rfl)); (try simp only [sxA, sxB, sxC, Act.put, sxD, sxE, sxF]))
  (refine wpAnyH_ready (rs := [4]) (by kernel_rfl) (by simp) ?_; refine AllReadyH.cons (o := _) rfl (fun K hK => ?_) AllReadyH.nil)
  obtain ⟨c0, c1, g0, g1⟩ := rb1
  have y0 := cell_lt c0
  dsimp only at y0
  go_simp
  obtain ⟨w6, hw6⟩ : ∃ w6, w6 = (v1.setCell ⟨B, 0, none⟩ (.int .i64 0)).setCell ⟨B, 1, none⟩ (.int .i64 0) := ⟨_, rfl⟩
  have X6 : Ext w w6 := by rw [hw6]; have := xw; exact exE
  have b06 : w6.cell? ⟨C, 0, none⟩ = some (.int .i64 0) := by rw [hw6]; exact box_put (by omega) (box_put (by omega) b0)
  have b16 : w6.cell? ⟨C, 1, none⟩ = some (.int .i64 0) := by rw [hw6]; exact box_put (by omega) (box_put (by omega) b1)
  have A6 : Bx2 w6 B 0 0 := by rw [hw6]; exact Bx2.store ⟨c0, c1, g0, g1⟩ _ _
  rw [← hw6]
  clear hw6
  obtain ⟨w7, hw7⟩ : ∃ w7, w7 = w6.drew := ⟨_, rfl⟩
  have x67 : Ext w6 w7 := by rw [hw7]; exact exE
  have X7 := X6.trans x67
  have b07 := x67.cell b06
  have b17 := x67.cell b16
  have A7 := A6.ext x67
  clear x67 X6 b06 b16 A6
  rw [← hw7]
  clear hw7
  refine hK.out _ _ ⟨X7, b07, b17⟩ (fun hHeld => ?_)
  clear hK K
  clear c0 c1 g0 g1 y0
  (try simp only [sxA, sxB, sxC, Act.put, sxD, sxE, sxF])
  (refine tkA (i := 5) (v := ?_) rfl (fun _ _ _ h => h) (Or.inl ⟨by rfl, ?yl⟩) (by assumption) ?_; (case yl => ((intro w hSw; (try dsimp only at hSw); obtain ⟨_, kk0, kk1⟩ := hSw; go_simp); with_reducible rfl)); (try simp only [sxA, sxB, sxC, Act.put, sxD, sxE, sxF]))
  (refine tkA (i := 6) (v := ?_) rfl (fun _ _ _ h => h) (Or.inl ⟨by rfl, ?yl⟩) (by assumption) ?_; (case yl => ((intro w hSw; (try dsimp only at hSw); obtain ⟨_, kk0, kk1⟩ := hSw; go_simp); with_reducible rfl)); (try simp only [sxA, sxB, sxC, Act.put, sxD, sxE, sxF]))
  refine wpAnyH_done (by kernel_rfl) ?_ _
  obtain ⟨c0, c1, _, _⟩ := A7
  simp only [calmS]
  go_wp2_with fail
  refine bodyPost_ret (v := .tuple #[(.agg #[.int .i64 (0), .int .i64 (0)]), .bool false, .bool true]) ?_ rfl ⟨rfl, X7⟩
  simp [results, Try.results44, go_sem, *]
set_option maxHeartbeats 40000000 in
theorem stV25 {yA yB yC yD yE yF yG yH yI yJ yK yL yM yN yO yP yQ yR yS yT yU yV yW yX yY yZ zB zC zD zE zF zG zH zI zJ zK zL zM zN zO zP zQ zR zS zT zU zV zW zX zY zZ uA uB uC uD uE uF uG uH uI uJ uK uL uM uN uO uP uQ uR uS uT uU uV uW uX uY uZ iA iB iC iD iE iF iG iH iI iJ iK iL iM iN iO iP iQ iR iS iT iU iV iW iX iY iZ oA oB oC oD oE oF oG oH oI oJ oK oL oM oN oO oP oQ oR oS oT oU oV oW oX oY oZ qA qB qC qD qE qF qG qH qI qJ qK qL qM qN qO qP qQ qR qS qT qU qV qW qX qY qZ rA rB rC rD rE rF rG rH rI rJ rK rL rM rN rO rP rQ rR rS rT rU rV rW rX rY rZ jA jB jC jD jE jF jG jH jI jJ jK jL jM jN jO jP jQ jR jS jT jU jV jW jX jY jZ nA nB nC nD nE nF nG nH nI nJ nK nL nM nN nO nP nQ nR nS nT nU nV nW nX nY nZ gA gB gC gD gE : Value} {B : Nat} {Pn Pd Qq : Int} {w : World} (t0 : w.cell? ⟨B, 0, none⟩ = some (.int .i64 Pn)) (t1 : w.cell? ⟨B, 1, none⟩ = some (.int .i64 Pd)) (hb3 : ¬ Pd < 1) (hb4 : ¬ 1073741824 < Pd) (hb5 : ¬ Pd = 0) (hQq : Pn.tdiv Pd = Qq) (hqt : ¬ 1000 < Qq) (q1 : -9223372036854775808 ≤ Qq) (q2 : Qq ≤ 9223372036854775807) :
 Code.wp Try.prog (rgn Try.f7 25) (fun e a' w' => e = .normal ∧ ∃ (jW' jX' jY' jZ' nA' nB' nC' nD' nE' nF' nG' nH' nI' nJ' nK' : Value), a' = { tmps := #[yA,yB,yC,yD,yE,yF,yG,yH,yI,yJ,yK,yL,yM,yN,yO,yP,yQ,yR,yS,yT,yU,yV,yW,yX,yY,yZ,.pointer (some ⟨B, 0, none⟩),zB,zC,zD,zE,zF,zG,zH,zI,zJ,zK,zL,zM,zN,zO,zP,zQ,zR,zS,zT,zU,zV,zW,zX,zY,zZ,uA,uB,uC,uD,uE,uF,uG,uH,uI,uJ,uK,uL,uM,uN,uO,uP,uQ,uR,uS,uT,uU,uV,uW,uX,uY,uZ,iA,iB,iC,iD,iE,iF,iG,iH,iI,iJ,iK,iL,iM,iN,iO,iP,iQ,iR,iS,iT,iU,iV,iW,iX,iY,iZ,oA,oB,oC,oD,oE,oF,oG,oH,oI,oJ,oK,oL,oM,oN,oO,oP,oQ,oR,oS,oT,oU,oV,oW,oX,oY,oZ,qA,qB,qC,qD,qE,qF,qG,qH,qI,qJ,qK,qL,qM,qN,qO,qP,qQ,qR,qS,qT,qU,qV,qW,qX,qY,qZ,rA,rB,rC,rD,rE,rF,rG,rH,rI,rJ,rK,rL,rM,rN,rO,rP,rQ,rR,rS,rT,rU,rV,rW,rX,rY,rZ,jA,jB,jC,jD,jE,jF,jG,jH,jI,jJ,jK,jL,jM,jN,jO,jP,jQ,jR,jS,jT,jU,jV,jW',jX',jY',jZ',nA',nB',nC',nD',nE',nF',nG',nH',nI',nJ',nK',.bool false,nM,nN,nO,nP,nQ,nR,nS,nT,nU,nV,nW,nX,nY,nZ,gA,gB,gC,gD,gE], defers := [] } ∧ Ext w w') { tmps := #[yA,yB,yC,yD,yE,yF,yG,yH,yI,yJ,yK,yL,yM,yN,yO,yP,yQ,yR,yS,yT,yU,yV,yW,yX,yY,yZ,.pointer (some ⟨B, 0, none⟩),zB,zC,zD,zE,zF,zG,zH,zI,zJ,zK,zL,zM,zN,zO,zP,zQ,zR,zS,zT,zU,zV,zW,zX,zY,zZ,uA,uB,uC,uD,uE,uF,uG,uH,uI,uJ,uK,uL,uM,uN,uO,uP,uQ,uR,uS,uT,uU,uV,uW,uX,uY,uZ,iA,iB,iC,iD,iE,iF,iG,iH,iI,iJ,iK,iL,iM,iN,iO,iP,iQ,iR,iS,iT,iU,iV,iW,iX,iY,iZ,oA,oB,oC,oD,oE,oF,oG,oH,oI,oJ,oK,oL,oM,oN,oO,oP,oQ,oR,oS,oT,oU,oV,oW,oX,oY,oZ,qA,qB,qC,qD,qE,qF,qG,qH,qI,qJ,qK,qL,qM,qN,qO,qP,qQ,qR,qS,qT,qU,qV,qW,qX,qY,qZ,rA,rB,rC,rD,rE,rF,rG,rH,rI,rJ,rK,rL,rM,rN,rO,rP,rQ,rR,rS,rT,rU,rV,rW,rX,rY,rZ,jA,jB,jC,jD,jE,jF,jG,jH,jI,jJ,jK,jL,jM,jN,jO,jP,jQ,jR,jS,jT,jU,jV,jW,jX,jY,jZ,nA,nB,nC,nD,nE,nF,nG,nH,nI,nJ,nK,nL,nM,nN,nO,nP,nQ,nR,nS,nT,nU,nV,nW,nX,nY,nZ,gA,gB,gC,gD,gE], defers := [] } w := by
 conv => arg 2; whnf
 refine st_intro (fun Q2 hQ2 => ?_)
 replace hQ2 := hid hQ2
 have lT := cell_lt t0
 dsimp only at lT
 go_wp2_with fail
 rw [hQ2.out]
 refine ⟨rfl, _, _, _, _, _, _, _, _, _, _, _, _, _, _, _, rfl, exE⟩
set_option maxHeartbeats 40000000 in
theorem stVn27 {yA yB yC yD yE yF yG yH yI yJ yK yL yM yN yO yP yQ yR yS yT yU yV yW yX yY yZ zB zC zD zE zF zG zH zI zJ zK zL zM zN zO zP zQ zR zS zT zU zV zW zX zY zZ uA uB uC uD uE uF uG uH uI uJ uK uL uM uN uO uP uQ uR uS uT uU uV uW uX uY uZ iA iB iC iD iE iF iG iH iI iJ iK iL iM iN iO iP iQ iR iS iT iU iV iW iX iY iZ oA oB oC oD oE oF oG oH oI oJ oK oL oM oN oO oP oQ oR oS oT oU oV oW oX oY oZ qA qB qC qD qE qF qG qH qI qJ qK qL qM qN qO qP qQ qR qS qT qU qV qW qX qY qZ rA rB rC rD rE rF rG rH rI rJ rK rL rM rN rO rP rQ rR rS rT rU rV rW rX rY rZ jA jB jC jD jE jF jG jH jI jJ jK jL jM jN jO jP jQ jR jS jT jU jV jW jX jY jZ nA nB nC nD nE nF nG nH nI nJ nK nL nM nN nO nP nQ nR nS nT nU nV nW nX nY nZ gA gB gC gD gE : Value} {B : Nat} {Pn Pd : Int} {w : World} (t0 : w.cell? ⟨B, 0, none⟩ = some (.int .i64 Pn)) (t1 : w.cell? ⟨B, 1, none⟩ = some (.int .i64 Pd)) (hneg : Pn < 0) :
 Code.wp Try.prog (rgn Try.f7 27) (fun e a' w' => e = .normal ∧ ∃ (nM' nN' nO' nP' nQ' nR' nS' nT' nU' nV' nW' nX' nY' nZ' gA' gB' gC' gD' gE' : Value), a' = { tmps := #[yA,yB,yC,yD,yE,yF,yG,yH,yI,yJ,.bool true,yL,yM,yN,yO,yP,yQ,yR,yS,yT,yU,yV,yW,yX,yY,yZ,.pointer (some ⟨B, 0, none⟩),zB,zC,zD,zE,zF,zG,zH,zI,zJ,zK,zL,zM,zN,zO,zP,zQ,zR,zS,zT,zU,zV,zW,zX,zY,zZ,uA,uB,uC,uD,uE,uF,uG,uH,uI,uJ,uK,uL,uM,uN,uO,uP,uQ,uR,uS,uT,uU,uV,uW,uX,uY,uZ,iA,iB,iC,iD,iE,iF,iG,iH,iI,iJ,iK,iL,iM,iN,iO,iP,iQ,iR,iS,iT,iU,iV,iW,iX,iY,iZ,oA,oB,oC,oD,oE,oF,oG,oH,oI,oJ,oK,oL,oM,oN,oO,oP,oQ,oR,oS,oT,oU,oV,oW,oX,oY,oZ,qA,qB,qC,qD,qE,qF,qG,qH,qI,qJ,qK,qL,qM,qN,qO,qP,qQ,qR,qS,qT,qU,qV,qW,qX,qY,qZ,rA,rB,rC,rD,rE,rF,rG,rH,rI,rJ,rK,rL,rM,rN,rO,rP,rQ,rR,rS,rT,rU,rV,rW,rX,rY,rZ,jA,jB,jC,jD,jE,jF,jG,jH,jI,jJ,jK,jL,jM,jN,jO,jP,jQ,jR,jS,jT,jU,jV,jW,jX,jY,jZ,nA,nB,nC,nD,nE,nF,nG,nH,nI,nJ,nK,nL,nM',nN',nO',nP',nQ',nR',nS',nT',nU',nV',nW',nX',nY',nZ',gA',gB',gC',gD',gE'], defers := [] } ∧ Ext w w') { tmps := #[yA,yB,yC,yD,yE,yF,yG,yH,yI,yJ,yK,yL,yM,yN,yO,yP,yQ,yR,yS,yT,yU,yV,yW,yX,yY,yZ,.pointer (some ⟨B, 0, none⟩),zB,zC,zD,zE,zF,zG,zH,zI,zJ,zK,zL,zM,zN,zO,zP,zQ,zR,zS,zT,zU,zV,zW,zX,zY,zZ,uA,uB,uC,uD,uE,uF,uG,uH,uI,uJ,uK,uL,uM,uN,uO,uP,uQ,uR,uS,uT,uU,uV,uW,uX,uY,uZ,iA,iB,iC,iD,iE,iF,iG,iH,iI,iJ,iK,iL,iM,iN,iO,iP,iQ,iR,iS,iT,iU,iV,iW,iX,iY,iZ,oA,oB,oC,oD,oE,oF,oG,oH,oI,oJ,oK,oL,oM,oN,oO,oP,oQ,oR,oS,oT,oU,oV,oW,oX,oY,oZ,qA,qB,qC,qD,qE,qF,qG,qH,qI,qJ,qK,qL,qM,qN,qO,qP,qQ,qR,qS,qT,qU,qV,qW,qX,qY,qZ,rA,rB,rC,rD,rE,rF,rG,rH,rI,rJ,rK,rL,rM,rN,rO,rP,rQ,rR,rS,rT,rU,rV,rW,rX,rY,rZ,jA,jB,jC,jD,jE,jF,jG,jH,jI,jJ,jK,jL,jM,jN,jO,jP,jQ,jR,jS,jT,jU,jV,jW,jX,jY,jZ,nA,nB,nC,nD,nE,nF,nG,nH,nI,nJ,nK,nL,nM,nN,nO,nP,nQ,nR,nS,nT,nU,nV,nW,nX,nY,nZ,gA,gB,gC,gD,gE], defers := [] } w := by
 conv => arg 2; whnf
 refine st_intro (fun Q2 hQ2 => ?_)
 replace hQ2 := hid hQ2
 have lT := cell_lt t0
 dsimp only at lT
 go_wp2_with fail
 refine (works_any _).mono ?_; rintro e u ⟨rfl, hE⟩
 have x : Ext w u := exE
 clear hE
 go_wp2_with fail
 rw [hQ2.out]
 refine ⟨rfl, _, _, _, _, _, _, _, _, _, _, _, _, _, _, _, _, _, _, _, rfl, exE⟩
set_option maxHeartbeats 40000000 in
theorem stVp27 {yA yB yC yD yE yF yG yH yI yJ yK yL yM yN yO yQ yR yS yT yU yV yW yX yY yZ zB zC zD zE zF zG zH zI zJ zK zL zM zN zO zP zQ zR zS zT zU zV zW zX zY zZ uA uB uC uD uE uF uG uH uI uJ uK uL uM uN uO uP uQ uR uS uT uU uV uW uX uY uZ iA iB iC iD iE iF iG iH iI iJ iK iL iM iN iO iP iQ iR iS iT iU iV iW iX iY iZ oA oB oC oD oE oF oG oH oI oJ oK oL oM oN oO oP oQ oR oS oT oU oV oW oX oY oZ qA qB qC qD qE qF qG qH qI qJ qK qL qM qN qO qP qQ qR qS qT qU qV qW qX qY qZ rA rB rC rD rE rF rG rH rI rJ rK rL rM rN rO rP rQ rR rS rT rU rV rW rX rY rZ jA jB jC jD jE jF jG jH jI jJ jK jL jM jN jO jP jQ jR jS jT jU jV jW jX jY jZ nA nB nC nD nE nF nG nH nI nJ nK nL nM nN nO nP nQ nR nS nT nU nV nW nX nY nZ gA gB gC gD gE : Value} {B C : Nat} {Pn Pd LN LD A1 A2 : Int} {w : World} (t0 : w.cell? ⟨B, 0, none⟩ = some (.int .i64 Pn)) (t1 : w.cell? ⟨B, 1, none⟩ = some (.int .i64 Pd)) (c0 : w.cell? ⟨C, 0, none⟩ = some (.int .i64 LN)) (c1 : w.cell? ⟨C, 1, none⟩ = some (.int .i64 LD)) (hneg : ¬ Pn < 0) (h1 : Pn * LD = A1) (h2 : LN * Pd = A2) (i1 : -9223372036854775808 ≤ A1 ∧ A1 ≤ 9223372036854775807) (i2 : -9223372036854775808 ≤ A2 ∧ A2 ≤ 9223372036854775807) (hle : A1 ≤ A2) :
 Code.wp Try.prog (rgn Try.f7 27) (fun e a' w' => e = .normal ∧ ∃ (nM' nN' nO' nP' nQ' nR' nS' nT' nU' nV' nW' nX' nY' nZ' gA' gB' gC' gD' gE' : Value), a' = { tmps := #[yA,yB,yC,yD,yE,yF,yG,yH,yI,yJ,.bool true,yL,yM,yN,yO,.pointer (some ⟨C, 0, none⟩),yQ,yR,yS,yT,yU,yV,yW,yX,yY,yZ,.pointer (some ⟨B, 0, none⟩),zB,zC,zD,zE,zF,zG,zH,zI,zJ,zK,zL,zM,zN,zO,zP,zQ,zR,zS,zT,zU,zV,zW,zX,zY,zZ,uA,uB,uC,uD,uE,uF,uG,uH,uI,uJ,uK,uL,uM,uN,uO,uP,uQ,uR,uS,uT,uU,uV,uW,uX,uY,uZ,iA,iB,iC,iD,iE,iF,iG,iH,iI,iJ,iK,iL,iM,iN,iO,iP,iQ,iR,iS,iT,iU,iV,iW,iX,iY,iZ,oA,oB,oC,oD,oE,oF,oG,oH,oI,oJ,oK,oL,oM,oN,oO,oP,oQ,oR,oS,oT,oU,oV,oW,oX,oY,oZ,qA,qB,qC,qD,qE,qF,qG,qH,qI,qJ,qK,qL,qM,qN,qO,qP,qQ,qR,qS,qT,qU,qV,qW,qX,qY,qZ,rA,rB,rC,rD,rE,rF,rG,rH,rI,rJ,rK,rL,rM,rN,rO,rP,rQ,rR,rS,rT,rU,rV,rW,rX,rY,rZ,jA,jB,jC,jD,jE,jF,jG,jH,jI,jJ,jK,jL,jM,jN,jO,jP,jQ,jR,jS,jT,jU,jV,jW,jX,jY,jZ,nA,nB,nC,nD,nE,nF,nG,nH,nI,nJ,nK,nL,nM',nN',nO',nP',nQ',nR',nS',nT',nU',nV',nW',nX',nY',nZ',gA',gB',gC',gD',gE'], defers := [] } ∧ Ext w w') { tmps := #[yA,yB,yC,yD,yE,yF,yG,yH,yI,yJ,yK,yL,yM,yN,yO,.pointer (some ⟨C, 0, none⟩),yQ,yR,yS,yT,yU,yV,yW,yX,yY,yZ,.pointer (some ⟨B, 0, none⟩),zB,zC,zD,zE,zF,zG,zH,zI,zJ,zK,zL,zM,zN,zO,zP,zQ,zR,zS,zT,zU,zV,zW,zX,zY,zZ,uA,uB,uC,uD,uE,uF,uG,uH,uI,uJ,uK,uL,uM,uN,uO,uP,uQ,uR,uS,uT,uU,uV,uW,uX,uY,uZ,iA,iB,iC,iD,iE,iF,iG,iH,iI,iJ,iK,iL,iM,iN,iO,iP,iQ,iR,iS,iT,iU,iV,iW,iX,iY,iZ,oA,oB,oC,oD,oE,oF,oG,oH,oI,oJ,oK,oL,oM,oN,oO,oP,oQ,oR,oS,oT,oU,oV,oW,oX,oY,oZ,qA,qB,qC,qD,qE,qF,qG,qH,qI,qJ,qK,qL,qM,qN,qO,qP,qQ,qR,qS,qT,qU,qV,qW,qX,qY,qZ,rA,rB,rC,rD,rE,rF,rG,rH,rI,rJ,rK,rL,rM,rN,rO,rP,rQ,rR,rS,rT,rU,rV,rW,rX,rY,rZ,jA,jB,jC,jD,jE,jF,jG,jH,jI,jJ,jK,jL,jM,jN,jO,jP,jQ,jR,jS,jT,jU,jV,jW,jX,jY,jZ,nA,nB,nC,nD,nE,nF,nG,nH,nI,nJ,nK,nL,nM,nN,nO,nP,nQ,nR,nS,nT,nU,nV,nW,nX,nY,nZ,gA,gB,gC,gD,gE], defers := [] } w := by
 conv => arg 2; whnf
 refine st_intro (fun Q2 hQ2 => ?_)
 replace hQ2 := hid hQ2
 have lT := cell_lt t0
 dsimp only at lT
 have lC := cell_lt c0
 dsimp only at lC
 have hw1 : IntKind.i64.wrap (Pn * LD) = A1 := by rw [h1]; exact Go.IntWalk.i64_in A1 i1
 have hw2 : IntKind.i64.wrap (LN * Pd) = A2 := by rw [h2]; exact Go.IntWalk.i64_in A2 i2
 go_wp2_with fail
 refine (works_any _).mono ?_; rintro e u ⟨rfl, hE⟩
 have x : Ext w u := exE
 clear hE
 go_wp2_with fail
 rw [hQ2.out]
 refine ⟨rfl, _, _, _, _, _, _, _, _, _, _, _, _, _, _, _, _, _, _, _, rfl, exE⟩
end Go.Proofs.Ytpnfhcnnodolbaa
