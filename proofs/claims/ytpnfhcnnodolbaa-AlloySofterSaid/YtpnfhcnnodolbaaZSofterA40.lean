/- Texts of one proof, laid together: Leq, Min, Lbd, Lls, Knp, Sur, Sha, Hld, Sof, Llt, Kna, Kno, LaSa. -/
import Derived.Test.YtpnfhcnnodolbaaZSofterA39
import Derived.Test.YtpnfhcnnodolbaaZY26
import Derived.Test.YtpnfhcnnodolbaaZY10
import Derived.Test.YtpnfhcnnodolbaaZY7
import Derived.Test.YtpnfhcnnodolbaaZY2
import Derived.Test.YtpnfhcnnodolbaaZSofterA34
import Derived.Test.YtpnfhcnnodolbaaZY25
import Derived.Test.YtpnfhcnnodolbaaZY11
import Derived.Test.YtpnfhcnnodolbaaZY4
import Derived.Test.YtpnfhcnnodolbaaZSofterA35
import Derived.Test.YtpnfhcnnodolbaaZY18
import Derived.Test.YtpnfhcnnodolbaaZY17
import Derived.Test.YtpnfhcnnodolbaaZY16
import Derived.Test.YtpnfhcnnodolbaaZY8
import Derived.Test.YtpnfhcnnodolbaaZSofterA36
import Derived.Test.YtpnfhcnnodolbaaZY12
import Derived.Test.YtpnfhcnnodolbaaZY3
import Derived.Test.YtpnfhcnnodolbaaZSofterA37
import Derived.Test.YtpnfhcnnodolbaaZY22
import Derived.Test.YtpnfhcnnodolbaaZY20
import Derived.Test.YtpnfhcnnodolbaaZY21
import Derived.Test.YtpnfhcnnodolbaaZY9
import Derived.Test.YtpnfhcnnodolbaaZY5
import Derived.Test.YtpnfhcnnodolbaaZY13
import Derived.Test.YtpnfhcnnodolbaaZY19
import Derived.Test.YtpnfhcnnodolbaaZY1
import Derived.Test.YtpnfhcnnodolbaaZY30
import Derived.Test.YtpnfhcnnodolbaaZY28
import Derived.Test.YtpnfhcnnodolbaaZY23
import Derived.Test.YtpnfhcnnodolbaaZY14
import Derived.Test.YtpnfhcnnodolbaaZY27
import Derived.Test.YtpnfhcnnodolbaaZY6
import Derived.Test.YtpnfhcnnodolbaaZY31
import Derived.Test.YtpnfhcnnodolbaaZY29
set_option linter.unusedVariables false
set_option linter.unusedSimpArgs false
set_option linter.unusedSectionVars false
set_option linter.unnecessarySimpa false
set_option maxRecDepth 100000
namespace Go.Proofs.Ytpnfhcnnodolbaa
open Go Go.RowKit Game
theorem bstN_best {lt : Nat → Nat → Bool} {n : Nat} (irr : ∀ i, i < n → lt i i = false) (tr : ∀ i j k, i < n → j < n → k < n → lt i j = true → lt j k = true → lt i k = true) :
 ∀ k, k < n → ∀ j, j ≤ k → lt j (bstN lt k) = false
 | 0, h0, j, hj => by obtain rfl : j = 0 := by omega
                      exact irr 0 h0
 | k + 1, hk, j, hj => by
  have ih := bstN_best irr tr k (by omega)
  have hle := bstN_le lt k
  simp only [bstN]
  by_cases g : lt (k + 1) (bstN lt k) = true
  ·rw [if_pos g]
   by_cases e : j = k + 1
   ·subst e; exact irr _ hk
   ·rw [Bool.eq_false_iff]
    intro h
    have := tr j (k + 1) (bstN lt k) (by omega) hk (by omega) h g
    rw [ih j (by omega)] at this
    cases this
  ·rw [if_neg g]
   by_cases e : j = k + 1
   ·subst e; exact (Bool.eq_false_iff).2 g
   ·exact ih j (by omega)
theorem ltC_iff {l : List Met} {x y : List Int} (hx : Xok l x) (hy : Xok l y) : ltC l x y = decide (costN l x l.length * psum y < costN l y l.length * psum x) := rat_lt hx.pos hy.pos
theorem lt_trans3 {a b c p q r : Int} (hp : 0 < p) (hq : 0 < q) (hr : 0 < r) (h1 : a * q < b * p) (h2 : b * r < c * q) : a * r < c * p := by
 have e1 := Int.mul_lt_mul_of_pos_right h1 hr
 have e2 := Int.mul_lt_mul_of_pos_right h2 hp
 refine Int.lt_of_mul_lt_mul_right (a := q) ?_ (by omega)
 rw [show a * r * q = a * q * r by grind, show c * p * q = c * q * p by grind]
 rw [show b * p * r = b * r * p by grind] at e1
 exact Int.lt_trans e1 e2
theorem best_min {l : List Met} {L : List (List Int)} (hL : ∀ x ∈ L, Xok l x) (h0 : 0 < L.length) {y : List Int} (hy : y ∈ L) :
 ltC l y (row L (bstN (fun i j => ltC l (row L i) (row L j)) (L.length - 1))) = false := by
 have ok : ∀ i, i < L.length → Xok l (row L i) := fun i hi => hL _ (by rw [row_lt hi]; exact List.getElem_mem hi)
 obtain ⟨j, hj, e⟩ := List.getElem_of_mem hy
 have := bstN_best (lt := fun i j => ltC l (row L i) (row L j)) (n := L.length)
  (fun i hi => by rw [ltC_iff (ok i hi) (ok i hi), decide_eq_false_iff_not]; omega)
  (fun a b d ha hb hd h1 h2 => by
   rw [ltC_iff (ok a ha) (ok b hb), decide_eq_true_eq] at h1
   rw [ltC_iff (ok b hb) (ok d hd), decide_eq_true_eq] at h2
   rw [ltC_iff (ok a ha) (ok d hd), decide_eq_true_eq]
   exact lt_trans3 (ok a ha).pos (ok b hb).pos (ok d hd).pos h1 h2) (L.length - 1) (by omega) j (by omega)
 rw [← e, ← row_lt hj]
 exact this
theorem best_in {L : List (List Int)} (h0 : 0 < L.length) (lt : Nat → Nat → Bool) : row L (bstN lt (L.length - 1)) ∈ L := by
 have := bstN_le lt (L.length - 1)
 rw [row_lt (by omega)]
 exact List.getElem_mem _
theorem edges_zero {l : List Met} (v : VldM l) {u c : Int} (hu : 0 ≤ u ∧ u ≤ 1000) (hc : 0 ≤ c ∧ c ≤ 1000) (s : Bool) : (edP l u c s).length = 0 ↔ (edg l u c s).length = 0 := by
 constructor
 ·intro h
  have h1 := List.eq_nil_of_length_eq_zero h
  refine Classical.byContradiction fun g => ?_
  have := edg_sub v hu hc (s := s) (List.getElem_mem (show 0 < (edg l u c s).length by omega))
  rw [h1] at this; simp at this
 ·intro h
  have h1 := List.eq_nil_of_length_eq_zero h
  refine Classical.byContradiction fun g => ?_
  have := edP_sub v hu hc (s := s) (List.getElem_mem (show 0 < (edP l u c s).length by omega))
  rw [h1] at this; simp at this
theorem che_eq (l : List Met) (u c : Int) (s : Bool) : cheE l u c s = lrE l u c s := by
 unfold cheE lrE
 by_cases g : ¬ chkB l u c = 0
 ·rw [if_pos g, if_pos g]
 ·rw [if_neg g, if_neg g]
  obtain ⟨v, hu, hc⟩ := chkB_ok (Decidable.not_not.1 g)
  have := edges_zero v hu hc s
  by_cases h : (edP l u c s).length = 0
  ·rw [if_pos h, if_pos (this.1 h)]
  ·rw [if_neg h, if_neg (fun h' => h (this.2 h'))]
def exT (l : List Met) (u c : Int) (s : Bool) (i j : Nat) : Int := if j = 0 then - exA l u c s i else - exC l u c s i
structure Gx (l : List Met) (u c : Int) (s : Bool) (x : List Int) : Prop where
 len : x.length = l.length
 nn : ∀ i, 0 ≤ nth x i
 ps : 0 < psum x
 gd : isG l u c s x = true
theorem exT_sum {l : List Met} (u c : Int) (s : Bool) {x : List Int} (hl : x.length = l.length) :
 ag (exT l u c s) l.length (nth x) 0 = u * psum x - ledN l s x l.length ∧ ag (exT l u c s) l.length (nth x) 1 = copN l s x l.length - c * psum x := by
 constructor
 ·have e : ag (exT l u c s) l.length (nth x) 0 = sm l.length (fun i => u * nth x i + (-1) * (nth x i * badL (mtl l i) s)) := sm_congr fun i _ => by simp [exT, exA, spr]; grind
  rw [e, sm_lin (x := nth x) (z := fun i => nth x i * badL (mtl l i) s)]
  unfold ledN psum; rw [hl]; omega
 ·have e : ag (exT l u c s) l.length (nth x) 1 = sm l.length (fun i => (-c) * nth x i + 1 * (nth x i * goodC (mtl l i) s)) := sm_congr fun i _ => by simp [exT, exC, spr]; grind
  rw [e, sm_lin (x := nth x) (z := fun i => nth x i * goodC (mtl l i) s)]
  unfold copN psum; rw [hl, Int.neg_mul]; omega
theorem isG_iff {l : List Met} {u c : Int} {s : Bool} {x : List Int} (hl : x.length = l.length) : isG l u c s x = true ↔ Al (exT l u c s) l.length 2 (nth x) := by
 obtain ⟨a, b⟩ := exT_sum u c s hl
 unfold isG Al
 rw [Bool.and_eq_true, decide_eq_true_eq, decide_eq_true_eq]
 constructor
 ·intro h j hj
  obtain rfl | rfl : j = 0 ∨ j = 1 := by omega
  ·omega
  ·omega
 ·intro h
  have h0 := h 0 (by omega)
  have h1 := h 1 (by omega)
  omega
theorem ab_abs (p : Int) : ab p = absI p := by unfold ab absI; split <;> split <;> omega
theorem sgn2_of {a0 a1 : Int} (h : Gd [a0, a1]) : ((0 ≤ a0 ∧ 0 ≤ a1) ∨ (a0 ≤ 0 ∧ a1 ≤ 0)) ∧ (a0 ≠ 0 ∨ a1 ≠ 0) := by
 obtain ⟨⟨a, ha, hne⟩, hno⟩ := h
 constructor
 ·refine Classical.byContradiction fun hc => hno ?_
  have h1 : a0 < 0 ∨ a1 < 0 := by omega
  have h2 : 0 < a0 ∨ 0 < a1 := by omega
  exact ⟨h1.elim (fun h => ⟨a0, by simp, h⟩) (fun h => ⟨a1, by simp, h⟩), h2.elim (fun h => ⟨a0, by simp, h⟩) (fun h => ⟨a1, by simp, h⟩)⟩
 ·simp at ha; rcases ha with rfl | rfl
  ·exact .inl hne
  ·exact .inr hne
theorem sgn3_of {a0 a1 a2 : Int} (h : Gd [a0, a1, a2]) : ((0 ≤ a0 ∧ 0 ≤ a1 ∧ 0 ≤ a2) ∨ (a0 ≤ 0 ∧ a1 ≤ 0 ∧ a2 ≤ 0)) ∧ (a0 ≠ 0 ∨ a1 ≠ 0 ∨ a2 ≠ 0) := by
 obtain ⟨⟨a, ha, hne⟩, hno⟩ := h
 constructor
 ·refine Classical.byContradiction fun hc => hno ?_
  have h1 : a0 < 0 ∨ a1 < 0 ∨ a2 < 0 := by omega
  have h2 : 0 < a0 ∨ 0 < a1 ∨ 0 < a2 := by omega
  refine ⟨?_, ?_⟩
  ·rcases h1 with h | h | h
   ·exact ⟨a0, by simp, h⟩
   ·exact ⟨a1, by simp, h⟩
   ·exact ⟨a2, by simp, h⟩
  ·rcases h2 with h | h | h
   ·exact ⟨a0, by simp, h⟩
   ·exact ⟨a1, by simp, h⟩
   ·exact ⟨a2, by simp, h⟩
 ·simp at ha; rcases ha with rfl | rfl | rfl
  ·exact .inl hne
  ·exact .inr (.inl hne)
  ·exact .inr (.inr hne)
theorem sgnP2 {p0 p1 : Int} (h : (0 ≤ p0 ∧ 0 ≤ p1) ∨ (p0 ≤ 0 ∧ p1 ≤ 0)) (h2 : p0 ≠ 0 ∨ p1 ≠ 0) : SgnP 2 (nth [p0, p1]) := by
 refine ⟨?_, ?_⟩
 ·rcases h with h | h
  ·exact .inl (two_cases h.1 h.2)
  ·exact .inr (two_cases h.1 h.2)
 ·rcases h2 with h | h
  ·exact ⟨0, by omega, h⟩
  ·exact ⟨1, by omega, h⟩
theorem sgnP3 {p0 p1 p2 : Int} (h : (0 ≤ p0 ∧ 0 ≤ p1 ∧ 0 ≤ p2) ∨ (p0 ≤ 0 ∧ p1 ≤ 0 ∧ p2 ≤ 0)) (h2 : p0 ≠ 0 ∨ p1 ≠ 0 ∨ p2 ≠ 0) : SgnP 3 (nth [p0, p1, p2]) := by
 refine ⟨?_, ?_⟩
 ·rcases h with h | h
  ·exact .inl (three_cases h.1 h.2.1 h.2.2)
  ·exact .inr (three_cases h.1 h.2.1 h.2.2)
 ·rcases h2 with h | h | h
  ·exact ⟨0, by omega, h⟩
  ·exact ⟨1, by omega, h⟩
  ·exact ⟨2, by omega, h⟩
theorem put_eq {n : Nat} {t : List Nat} {p : List Int} (n1 : 1 ≤ n) (hs : SgnP p.length (nth p)) (ht : ∀ k, k < p.length → t.getD k 0 < n) (hd : ∀ j k, j < k → k < p.length → t.getD j 0 ≠ t.getD k 0)
 (e : Nat → Int) (h1 : ∀ k, k < p.length → e (t.getD k 0) = absI (nth p k)) (h2 : ∀ i, (∀ k, k < p.length → t.getD k 0 ≠ i) → e i = 0) : mkL n e = putL n t p := by
 have hl := (putL_iff (t := t) n1).2 hs
 refine list_ext_nth (by rw [mkL_len, hl]) fun i hi => ?_
 rw [mkL_len] at hi
 rw [mkL_nth _ hi, (putL_out n1 hl).1]
 by_cases g : ∃ k, k < p.length ∧ t.getD k 0 = i
 ·obtain ⟨k, hk, rfl⟩ := g
  rw [out_at ht hd _ (Nat.le_refl _) k hk, h1 k hk]
 ·have h3 : ∀ k, k < p.length → t.getD k 0 ≠ i := fun k hk e => g ⟨k, hk, e⟩
  rw [out_else h3 _ (Nat.le_refl _), h2 i h3]
theorem edge_in {l : List Met} (v : VldM l) {u c : Int} {s : Bool} {e : Nat → Int} (he : EdgeA (exT l u c s) l.length e) (hA : Al (exT l u c s) l.length 2 e) : mkL l.length e ∈ edg l u c s := by
 have n1 := v.n1
 have hg : isG l u c s (mkL l.length e) = true := by
  rw [isG_iff (mkL_len _ _)]
  intro j hj
  have := hA j hj
  rw [show ag (exT l u c s) l.length (nth (mkL l.length e)) j = ag (exT l u c s) l.length e j from sm_congr fun i hi => by rw [mkL_nth _ hi]]
  exact this
 refine edg_in ?_ (mkL_len _ _) hg
 rcases he with ⟨a, ha, rfl⟩ | ⟨a, b, j, hab, hb, hj, hGd, rfl⟩ | ⟨a, b, d, hab, hbd, hd, hGd, rfl⟩
 ·refine .inl ⟨a, ha, put_eq n1 (by refine ⟨.inl fun k hk => ?_, 0, by simp, by decide⟩; (have : k = 0 := by simpa using hk); subst this; decide) (fun k hk => ?_) (fun j k hjk hk => ?_) _ (fun k hk => ?_) (fun i hi => ?_)⟩
  ·have : k = 0 := by simpa using hk
   subst this; simpa using ha
  ·simp at hk; omega
  ·have : k = 0 := by simpa using hk
   subst this; simp [put, ab, absI, nth]
  ·have := hi 0 (by simp)
   simp only [List.getD_cons_zero] at this
   simp only [List.map, put, if_neg (Ne.symm this)]
 ·obtain ⟨h1, h2⟩ := sgn2_of hGd
  have hne : ¬ b = a := by omega
  have main : ∀ X : Nat → Int, (∀ i, exT l u c s i j = - X i) → mkL l.length (put [a, b] ([exT l u c s b j, - exT l u c s a j].map ab)) = putL l.length [b, a] [X a, - X b] := fun X hX => by
   rw [hX, hX] at h1 h2 ⊢
   refine put_eq (p := [X a, - X b]) n1 (sgnP2 (by omega) (by omega)) (fun k hk => ?_) (fun j k hjk hk => ?_) _ (fun k hk => ?_) (fun i hi => ?_)
   ·rcases k with _ | _ | k <;> simp at hk ⊢ <;> omega
   ·rcases k with _ | _ | k
    ·omega
    ·obtain rfl : j = 0 := by omega
     simp; omega
    ·simp at hk; omega
   ·rcases k with _ | _ | k
    ·simp only [List.getD_cons_zero, List.map, put, if_neg hne, if_true, nth_zero, ab_abs, Int.neg_neg]
    ·simp only [List.getD_cons_zero, List.getD_cons_succ, List.map, put, if_true, nth_succ, nth_zero, ab_abs]
    ·simp at hk; omega
   ·have i0 := hi 0 (by simp)
    have i1 := hi 1 (by simp)
    simp only [List.getD_cons_zero, List.getD_cons_succ] at i0 i1
    simp only [List.map, put, if_neg (Ne.symm i1), if_neg (Ne.symm i0)]
  refine .inr (.inl ⟨b, a, hab, hb, ?_⟩)
  obtain rfl | rfl : j = 0 ∨ j = 1 := by omega
  ·exact .inl (main (exA l u c s) fun i => by simp [exT])
  ·exact .inr (main (exC l u c s) fun i => by simp [exT])
 ·obtain ⟨h1, h2⟩ := sgn3_of hGd
  have hba : ¬ b = a := by omega
  have hda : ¬ d = a := by omega
  have hdb : ¬ d = b := by omega
  refine .inr (.inr ⟨d, b, a, hab, hbd, hd, ?_⟩)
  have hX : ∀ i, exT l u c s i 0 = - exA l u c s i := fun i => by simp [exT]
  have hY : ∀ i, exT l u c s i 1 = - exC l u c s i := fun i => by simp [exT]
  generalize hp0 : exT l u c s b 0 * exT l u c s d 1 - exT l u c s b 1 * exT l u c s d 0 = g0 at h1 h2 ⊢
  generalize hp1 : exT l u c s d 0 * exT l u c s a 1 - exT l u c s d 1 * exT l u c s a 0 = g1 at h1 h2 ⊢
  generalize hp2 : exT l u c s a 0 * exT l u c s b 1 - exT l u c s a 1 * exT l u c s b 0 = g2 at h1 h2 ⊢
  rw [hX, hX, hY, hY] at hp0 hp1 hp2
  have q0 : exA l u c s b * exC l u c s a - exC l u c s b * exA l u c s a = - g2 := by grind
  have q1 : exA l u c s a * exC l u c s d - exC l u c s a * exA l u c s d = - g1 := by grind
  have q2 : exA l u c s d * exC l u c s b - exC l u c s d * exA l u c s b = - g0 := by grind
  rw [q0, q1, q2]
  refine put_eq (p := [- g2, - g1, - g0]) n1 (sgnP3 (by omega) (by omega)) (fun k hk => ?_) (fun j k hjk hk => ?_) _ (fun k hk => ?_) (fun i hi => ?_)
  ·rcases k with _ | _ | _ | k <;> simp at hk ⊢ <;> omega
  ·rcases k with _ | _ | _ | k
   ·omega
   ·obtain rfl : j = 0 := by omega
    simp; omega
   ·have : j = 0 ∨ j = 1 := by omega
    rcases this with rfl | rfl <;> simp <;> omega
   ·simp at hk; omega
  ·rcases k with _ | _ | _ | k
   ·simp only [List.getD_cons_zero, List.map, put, if_neg hda, if_neg hdb, if_true, nth_zero, ab_abs, absI_neg]
   ·simp only [List.getD_cons_zero, List.getD_cons_succ, List.map, put, if_neg hba, if_true, nth_succ, nth_zero, ab_abs, absI_neg]
   ·simp only [List.getD_cons_zero, List.getD_cons_succ, List.map, put, if_true, nth_succ, nth_zero, ab_abs, absI_neg]
   ·simp at hk; omega
  ·have i0 := hi 0 (by simp)
   have i1 := hi 1 (by simp)
   have i2 := hi 2 (by simp)
   simp only [List.getD_cons_zero, List.getD_cons_succ] at i0 i1 i2
   simp only [List.map, put, if_neg (Ne.symm i2), if_neg (Ne.symm i1), if_neg (Ne.symm i0)]
def fsm (l : List Met) (f : Nat → Int) (x : List Int) : Int := sm l.length fun i => nth x i * f i
theorem edge_min {l : List Met} (v : VldM l) {u c : Int} {s : Bool} (f : Nat → Int) {x : List Int} (g : Gx l u c s x) : ∃ y, y ∈ edg l u c s ∧ fsm l f y * psum x ≤ fsm l f x * psum y := by
 have hx : Pl l.length (nth x) := ⟨fun i _ => g.nn i, by have := g.ps; unfold psum at this; rw [g.len] at this; exact this⟩
 obtain ⟨e, he, hp, hA, hle⟩ := edge_le f hx ((isG_iff g.len).1 g.gd)
 refine ⟨mkL l.length e, edge_in v he hA, ?_⟩
 have e1 : fsm l f (mkL l.length e) = co f l.length e := sm_congr fun i hi => by rw [mkL_nth _ hi]
 have e2 : psum (mkL l.length e) = sm l.length e := by unfold psum; rw [mkL_len]; exact sm_congr fun i hi => by rw [mkL_nth _ hi]
 have e3 : psum x = sm l.length (nth x) := by unfold psum; rw [g.len]
 rw [e1, e2, e3]
 exact hle
theorem edg_gx {l : List Met} (v : VldM l) {u c : Int} (hu : 0 ≤ u ∧ u ≤ 1000) (hc : 0 ≤ c ∧ c ≤ 1000) {s : Bool} {x : List Int} (h : x ∈ edg l u c s) : Gx l u c s x := by
 obtain ⟨a, b, _⟩ := edg_ok v hu hc h
 exact ⟨a.len, fun i => (a.prt i).1, a.pos, b⟩
theorem gx_che {l : List Met} {u c : Int} (hB : chkB l u c = 0) (s : Bool) : cheE l u c s = 0 ↔ ∃ x, Gx l u c s x := by
 obtain ⟨v, hu, hc⟩ := chkB_ok hB
 rw [che_eq]
 unfold lrE
 rw [if_neg (fun h => h hB)]
 constructor
 ·intro h
  have h0 : 0 < (edg l u c s).length := by
   refine Classical.byContradiction fun g => ?_
   rw [if_pos (by omega)] at h; cases h
  exact ⟨_, edg_gx v hu hc (List.getElem_mem h0)⟩
 ·rintro ⟨x, g⟩
  obtain ⟨y, hy, _⟩ := edge_min v (fun _ => 0) g
  have : (edg l u c s).length ≠ 0 := fun e => by
   have := List.eq_nil_of_length_eq_zero e
   rw [this] at hy; simp at hy
  rw [if_neg this]
theorem che_two {l : List Met} {u c : Int} (hB : chkB l u c = 0) (s : Bool) : cheE l u c s = 0 ∨ cheE l u c s = 17 := by
 unfold cheE
 rw [if_neg (fun h => h hB)]
 split
 ·exact .inr rfl
 ·exact .inl rfl
theorem che_pos {l : List Met} {u c : Int} (hB : chkB l u c = 0) {s : Bool} (h : cheE l u c s = 0) : 0 < (edP l u c s).length := by
 refine Classical.byContradiction fun g => ?_
 unfold cheE at h
 rw [if_neg (fun h' => h' hB), if_pos (by omega)] at h; cases h
theorem chp_gx {l : List Met} {u c : Int} (hB : chkB l u c = 0) {s : Bool} (h : cheE l u c s = 0) : Gx l u c s (chpL l u c s) ∧ chpL l u c s ∈ edg l u c s := by
 obtain ⟨v, hu, hc⟩ := chkB_ok hB
 have := edP_sub v hu hc (chp_mem (che_pos hB h))
 exact ⟨edg_gx v hu hc this, this⟩
theorem chp_le {l : List Met} {u c : Int} (hB : chkB l u c = 0) {s : Bool} (h : cheE l u c s = 0) {x : List Int} (g : Gx l u c s x) :
 costN l (chpL l u c s) l.length * psum x ≤ costN l x l.length * psum (chpL l u c s) := by
 obtain ⟨v, hu, hc⟩ := chkB_ok hB
 obtain ⟨y, hy, hle⟩ := edge_min v (fun i => (mtl l i).p) g
 have o := edP_ok v hu hc (chp_mem (che_pos hB h))
 have oy := edg_ok v hu hc hy
 have m := best_min (fun x hx => (edP_ok v hu hc hx).1) (che_pos hB h) (edg_sub v hu hc hy)
 change ltC l y (chpL l u c s) = false at m
 rw [ltC_iff oy.1 o.1, decide_eq_false_iff_not] at m
 change costN l y l.length * psum x ≤ costN l x l.length * psum y at hle
 refine ratio_trans oy.1.pos o.1.pos g.ps (c := costN l y l.length) ?_ hle
 omega
theorem mle {p q B : Int} (hp : 0 ≤ p) (hq : q ≤ B) : p * q ≤ B * p := by
 have := Int.mul_le_mul_of_nonneg_left hq hp
 rw [Int.mul_comm B p]; exact this
theorem cross_le {u c a1 b1 a2 b2 : Int} (hu : 0 ≤ u ∧ u ≤ 1000) (hc : 0 ≤ c ∧ c ≤ 1000) (h1 : -u ≤ a1 ∧ a1 ≤ 1000 - u) (h2 : -u ≤ b1 ∧ b1 ≤ 1000 - u) (h3 : c - 1000 ≤ a2 ∧ a2 ≤ c) (h4 : c - 1000 ≤ b2 ∧ b2 ≤ c) : a1 * b2 - a2 * b1 ≤ 1000000 := by
 have n1 : ∀ p q : Int, 0 ≤ p → q ≤ 0 → p * q ≤ 0 := fun p q hp hq => Int.mul_nonpos_of_nonneg_of_nonpos hp hq
 have n2 : ∀ p q : Int, 0 ≤ p → 0 ≤ q → 0 ≤ p * q := fun p q hp hq => Int.mul_nonneg hp hq
 rcases Int.le_total 0 a1 with s1 | s1 <;> rcases Int.le_total 0 b2 with s4 | s4 <;> rcases Int.le_total 0 a2 with s3 | s3 <;> rcases Int.le_total 0 b1 with s2 | s2
 ·have := n2 _ _ s3 s2; have := mle (B := 1000) s1 (show b2 ≤ 1000 by omega); omega
 ·have e : a2 * b1 = - (-b1 * a2) := by grind
  have := mle (B := 1000) s1 (show b2 ≤ 1000 by omega); have := mle (B := 1000) (show 0 ≤ -b1 by omega) (show a2 ≤ 1000 by omega); omega
 ·have e : a2 * b1 = - (-a2 * b1) := by grind
  have e2 : a1 * b2 = b2 * a1 := by grind
  have := mle (B := 1000) s4 (show a1 ≤ 1000 by omega); have := mle (B := 1000) (show 0 ≤ -a2 by omega) (show b1 ≤ 1000 by omega); omega
 ·have e : a2 * b1 = (-a2) * (-b1) := by grind
  have := n2 (-a2) (-b1) (by omega) (by omega); have := mle (B := 1000) s1 (show b2 ≤ 1000 by omega); omega
 ·have := n1 _ _ s1 s4; have := n2 _ _ s3 s2; omega
 ·have e : a2 * b1 = - (-b1 * a2) := by grind
  have := n1 _ _ s1 s4; have := mle (B := 1000) (show 0 ≤ -b1 by omega) (show a2 ≤ 1000 by omega); omega
 ·have e : a2 * b1 = - (-a2 * b1) := by grind
  have := n1 _ _ s1 s4; have := mle (B := 1000) (show 0 ≤ -a2 by omega) (show b1 ≤ 1000 by omega); omega
 ·have e : a2 * b1 = (-a2) * (-b1) := by grind
  have := n1 _ _ s1 s4; have := n2 (-a2) (-b1) (by omega) (by omega); omega
 ·have e2 : a1 * b2 = b2 * a1 := by grind
  have := n1 _ _ s4 s1; have := n2 _ _ s3 s2; omega
 ·have e2 : a1 * b2 = b2 * a1 := by grind
  have e : a2 * b1 = - (-b1 * a2) := by grind
  have := n1 _ _ s4 s1; have := mle (B := 1000) (show 0 ≤ -b1 by omega) (show a2 ≤ 1000 by omega); omega
 ·have e2 : a1 * b2 = b2 * a1 := by grind
  have e : a2 * b1 = - (-a2 * b1) := by grind
  have := n1 _ _ s4 s1; have := mle (B := 1000) (show 0 ≤ -a2 by omega) (show b1 ≤ 1000 by omega); omega
 ·have e2 : a1 * b2 = b2 * a1 := by grind
  have e : a2 * b1 = (-a2) * (-b1) := by grind
  have := n1 _ _ s4 s1; have := n2 (-a2) (-b1) (by omega) (by omega); omega
 ·have e2 : a1 * b2 = (-a1) * (-b2) := by grind
  have := n2 _ _ s3 s2; have := mle (B := 1000) (show 0 ≤ -a1 by omega) (show -b2 ≤ 1000 by omega); omega
 ·have e2 : a1 * b2 = (-b2) * (-a1) := by grind
  have e : a2 * b1 = - (a2 * -b1) := by grind
  have := mle (B := 1000) (show 0 ≤ -b2 by omega) (show -a1 ≤ 1000 by omega); have := mle (B := 1000) s3 (show -b1 ≤ 1000 by omega); omega
 ·have e2 : a1 * b2 = (-a1) * (-b2) := by grind
  have e : a2 * b1 = - (b1 * -a2) := by grind
  have := mle (B := 1000) (show 0 ≤ -a1 by omega) (show -b2 ≤ 1000 by omega); have := mle (B := 1000) s2 (show -a2 ≤ 1000 by omega); omega
 ·have e2 : a1 * b2 = (-a1) * (-b2) := by grind
  have e : a2 * b1 = (-a2) * (-b1) := by grind
  have := n2 (-a2) (-b1) (by omega) (by omega); have := mle (B := 1000) (show 0 ≤ -a1 by omega) (show -b2 ≤ 1000 by omega); omega
theorem absI_le {x B : Int} (h1 : x ≤ B) (h2 : -x ≤ B) : absI x ≤ B := by unfold absI; split <;> omega
theorem out_le {n : Nat} {t : List Nat} {p : List Int} {B : Int} (hB : 0 ≤ B) (h : ∀ k, k < p.length → absI (nth p k) ≤ B) (i : Nat) : ∀ K, K ≤ p.length → nth (outN n t p K) i ≤ B
 | 0, _ => by
  have : nth (outN n t p 0) i = 0 := by simp [outN, nth, List.getElem?_replicate]; split <;> rfl
  omega
 | K + 1, hK => by
  simp only [outN]
  rw [nth_set_]
  split
  ·exact h K (by omega)
  ·exact out_le hB h i K (by omega)
theorem putL_le {n : Nat} {t : List Nat} {p : List Int} {B : Int} (n1 : 1 ≤ n) (hl : (putL n t p).length = n) (hB : 0 ≤ B) (h : ∀ k, k < p.length → absI (nth p k) ≤ B) (i : Nat) : nth (putL n t p) i ≤ B := by
 rw [(putL_out n1 hl).1]
 exact out_le hB h i _ (Nat.le_refl _)
theorem exA_rg {l : List Met} (v : VldM l) (u c : Int) (s : Bool) (i : Nat) : -u ≤ exA l u c s i ∧ exA l u c s i ≤ 1000 - u := by
 have := badL_bd v s i
 have e : exA l u c s i = badL (mtl l i) s - u := by simp [exA, spr]
 omega
theorem exC_rg {l : List Met} (v : VldM l) (u c : Int) (s : Bool) (i : Nat) : c - 1000 ≤ exC l u c s i ∧ exC l u c s i ≤ c := by
 have := goodC_bd v s i
 have e : exC l u c s i = c - goodC (mtl l i) s := by simp [exC, spr]
 omega
theorem edg_le {l : List Met} (v : VldM l) {u c : Int} (hu : 0 ≤ u ∧ u ≤ 1000) (hc : 0 ≤ c ∧ c ≤ 1000) {s : Bool} {x : List Int} (h : x ∈ edg l u c s) (i : Nat) : nth x i ≤ 1000000 := by
 obtain ⟨ok, _, hF⟩ := edg_ok v hu hc h
 have hA := exA_rg v u c s
 have hC := exC_rg v u c s
 have hl := ok.len
 rcases hF with ⟨q, hq, rfl⟩ | ⟨b, a, hab, hb, rfl | rfl⟩ | ⟨d, b, a, hab, hbd, hd, rfl⟩
 ·refine putL_le (B := 1000000) v.n1 hl (by decide) (fun k hk => ?_) i
  obtain rfl : k = 0 := by simpa using hk
  decide
 ·refine putL_le (B := 1000000) v.n1 hl (by decide) (two_cases ?_ ?_) i
  ·have := hA a; exact absI_le (by show exA l u c s a ≤ _; omega) (by show - exA l u c s a ≤ _; omega)
  ·have := hA b; exact absI_le (by show - exA l u c s b ≤ _; omega) (by show - - exA l u c s b ≤ _; omega)
 ·refine putL_le (B := 1000000) v.n1 hl (by decide) (two_cases ?_ ?_) i
  ·have := hC a; exact absI_le (by show exC l u c s a ≤ _; omega) (by show - exC l u c s a ≤ _; omega)
  ·have := hC b; exact absI_le (by show - exC l u c s b ≤ _; omega) (by show - - exC l u c s b ≤ _; omega)
 ·have cr : ∀ p q, absI (exA l u c s p * exC l u c s q - exC l u c s p * exA l u c s q) ≤ 1000000 := fun p q => by
   have h1 := cross_le hu hc (hA p) (hA q) (hC p) (hC q)
   have h2 := cross_le hu hc (hA q) (hA p) (hC q) (hC p)
   refine absI_le h1 ?_
   rw [show -(exA l u c s p * exC l u c s q - exC l u c s p * exA l u c s q) = exA l u c s q * exC l u c s p - exC l u c s q * exA l u c s p by grind]
   exact h2
  exact putL_le (B := 1000000) v.n1 hl (by decide) (three_cases (cr b a) (cr a d) (cr d b)) i
theorem edg_vld {l : List Met} (v : VldM l) {u c : Int} (hu : 0 ≤ u ∧ u ≤ 1000) (hc : 0 ≤ c ∧ c ≤ 1000) {s : Bool} {x : List Int} (h : x ∈ edg l u c s) : VldX x l.length :=
 let ok := (edg_ok v hu hc h).1
 ⟨ok.len, fun i => (ok.prt i).1, edg_le v hu hc h, ok.pos⟩
theorem lst_zero (l : List Met) (u c : Int) (s : Bool) (h : ¬ cheE l u c s = 0) : lstN l u c s = 0 ∧ lstD l u c s = 0 := by
 unfold lstN lstD
 rw [if_neg h, if_neg h]
 exact ⟨rfl, rfl⟩
theorem chp_vld {l : List Met} {u c : Int} (hB : chkB l u c = 0) {s : Bool} (h : cheE l u c s = 0) : VldX (chpL l u c s) l.length ∧ psum (chpL l u c s) ≤ 6000000 := by
 obtain ⟨v, hu, hc⟩ := chkB_ok hB
 have vx := edg_vld v hu hc (chp_gx hB h).2
 exact ⟨vx, psum_le v.n6 vx.len vx.le vx.nn⟩
theorem lst_ok {l : List Met} {u c : Int} (hB : chkB l u c = 0) (s : Bool) (h : cheE l u c s = 0) : OkS (lstN l u c s) (lstD l u c s) := by
 obtain ⟨v, hu, hc⟩ := chkB_ok hB
 obtain ⟨vx, hp⟩ := chp_vld hB h
 unfold lstN lstD
 rw [if_pos h, if_pos h]
 exact cost_small v vx hp
theorem gx_of {l : List Met} {u c : Int} {s : Bool} {x : List Int} (vx : VldX x l.length) (h : isG l u c s x = true) : Gx l u c s x := ⟨vx.len, vx.nn, vx.ps, h⟩
theorem des_of {l : List Met} {u c : Int} (hB : chkB l u c = 0) {s : Bool} {x : List Int} (vx : VldX x l.length) : desE l u c s x = if isG l u c s x = true then 0 else 17 := by
 unfold desE; rw [if_neg (fun h => h hB), if_neg (by rw [mixE_ok.2 vx]; decide)]
theorem gx_des {l : List Met} {u c : Int} (hB : chkB l u c = 0) {s : Bool} {x : List Int} (vx : VldX x l.length) : desE l u c s x = 0 ↔ Gx l u c s x := by
 rw [des_of hB vx]
 constructor
 ·intro h
  by_cases g : isG l u c s x = true
  ·exact gx_of vx g
  ·rw [if_neg g] at h; cases h
 ·intro g; rw [if_pos g.gd]
theorem des_two {l : List Met} {u c : Int} (hB : chkB l u c = 0) (s : Bool) {x : List Int} (vx : VldX x l.length) : desE l u c s x = 0 ∨ desE l u c s x = 17 := by
 rw [des_of hB vx]; split
 ·exact .inl rfl
 ·exact .inr rfl
theorem lst_mono {l l' : List Met} {u c u' c' : Int} {s s' : Bool} (hB : chkB l u c = 0) (hB' : chkB l' u' c' = 0)
 (H : ∀ x, Gx l u c s x → ∃ y, Gx l' u' c' s' y ∧ costN l' y l'.length * psum x ≤ costN l x l.length * psum y) (h : cheE l u c s = 0) :
 cheE l' u' c' s' = 0 ∧ lessB (lstN l u c s) (lstD l u c s) (lstN l' u' c' s') (lstD l' u' c' s') = false := by
 have g := (chp_gx hB h).1
 obtain ⟨y, gy, hy⟩ := H _ g
 have h' := (gx_che hB' s').2 ⟨y, gy⟩
 refine ⟨h', ?_⟩
 have g' := (chp_gx hB' h').1
 have hle := chp_le hB' h' gy
 unfold lstN lstD
 rw [if_pos h, if_pos h, if_pos h', if_pos h']
 unfold csN csD
 rw [rat_lt g.ps g'.ps, decide_eq_false_iff_not]
 have := ratio_trans gy.ps g'.ps g.ps hle hy
 omega
def mtV (m : Met) (r : Nat) : Value := .int .i64 (if r = 0 then m.p else if r = 1 then m.ll else if r = 2 then m.lh else if r = 3 then m.cl else m.ch)
theorem elemMt : ElemG Try.prog 68 5 40 := elemG_mk (by kernel_rfl)
theorem el5 {w : World} {b : Nat} {m : Met} (h0 : w.cell? ⟨b, 0, none⟩ = some (.int .i64 m.p)) (h1 : w.cell? ⟨b, 1, none⟩ = some (.int .i64 m.ll)) (h2 : w.cell? ⟨b, 2, none⟩ = some (.int .i64 m.lh)) (h3 : w.cell? ⟨b, 3, none⟩ = some (.int .i64 m.cl)) (h4 : w.cell? ⟨b, 4, none⟩ = some (.int .i64 m.ch)) :
 ∀ i, i < 1 → ∀ r, r < 5 → w.cell? ⟨b, 0 + i * 5 + r, none⟩ = some (mtV m r) := by
 intro i hi r hr
 have e : i = 0 := by omega
 subst e
 match r, hr with
 | 0, _ => simpa [mtV] using h0
 | 1, _ => simpa [mtV] using h1
 | 2, _ => simpa [mtV] using h2
 | 3, _ => simpa [mtV] using h3
 | 4, _ => simpa [mtV] using h4
theorem mts_els {w : World} {a : Option Addr} {f : Nat → Met} {n : Nat} (h : Els w a 5 (fun i r => mtV (f i) r) n) {l : List Met} (hl : l.length = n) (hf : ∀ i, i < n → mtl l i = f i) : Mts w a l := by
 intro i hi
 obtain ⟨b, off, ha, hc⟩ := h i (by omega)
 refine ⟨b, off, ha, ?_⟩
 rw [hf i (by omega)]
 exact ⟨hc 0 (by omega), hc 1 (by omega), hc 2 (by omega), hc 3 (by omega), hc 4 (by omega)⟩
theorem mts_own {w : World} {base : Nat} {e : TypeId} {v : Value} {f : Nat → Met} {n : Nat} (h : OwnG w base e 5 v (fun i r => mtV (f i) r) n) {l : List Met} (hl : l.length = n) (hf : ∀ i, i < n → mtl l i = f i) : ∃ a cap, v = .slice a n cap ∧ Mts w a l := by
 obtain ⟨a, cap, hv, _, he⟩ := OwnG.els h
 exact ⟨a, cap, hv, mts_els he hl hf⟩
def mkM (n : Nat) (f : Nat → Met) : List Met := (List.range n).map f
theorem mkM_len (n : Nat) (f : Nat → Met) : (mkM n f).length = n := by simp [mkM]
theorem mkM_at {n : Nat} (f : Nat → Met) {i : Nat} (h : i < n) : mtl (mkM n f) i = f i := by simp [mtl, mkM, h, List.getD_eq_getElem?_getD]
def knM (m : Met) (x : Int) : Met := ⟨m.p, m.ll + x % (m.lh - m.ll + 1), m.ll + x % (m.lh - m.ll + 1), m.cl + x / 7 % (m.ch - m.cl + 1), m.cl + x / 7 % (m.ch - m.cl + 1)⟩
def knL (l : List Met) (p : List Int) : List Met := mkM l.length fun i => knM (mtl l i) (plN p i)
theorem knL_len (l : List Met) (p : List Int) : (knL l p).length = l.length := mkM_len _ _
theorem knM_in {m : Met} (hl : 0 ≤ m.ll ∧ m.ll ≤ m.lh ∧ m.lh ≤ 1000) (hc : 0 ≤ m.cl ∧ m.cl ≤ m.ch ∧ m.ch ≤ 1000) (x : Int) :
 (m.ll ≤ (knM m x).ll ∧ (knM m x).ll ≤ m.lh) ∧ (m.cl ≤ (knM m x).cl ∧ (knM m x).cl ≤ m.ch) ∧ (knM m x).lh = (knM m x).ll ∧ (knM m x).ch = (knM m x).cl ∧ (knM m x).p = m.p := by
 have h1 := Int.emod_nonneg x (show m.lh - m.ll + 1 ≠ 0 by omega)
 have h2 := Int.emod_lt_of_pos x (show 0 < m.lh - m.ll + 1 by omega)
 have h3 := Int.emod_nonneg (x / 7) (show m.ch - m.cl + 1 ≠ 0 by omega)
 have h4 := Int.emod_lt_of_pos (x / 7) (show 0 < m.ch - m.cl + 1 by omega)
 unfold knM
 refine ⟨⟨?_, ?_⟩, ⟨?_, ?_⟩, rfl, rfl, rfl⟩
 ·show m.ll ≤ m.ll + x % (m.lh - m.ll + 1); omega
 ·show m.ll + x % (m.lh - m.ll + 1) ≤ m.lh; omega
 ·show m.cl ≤ m.cl + x / 7 % (m.ch - m.cl + 1); omega
 ·show m.cl + x / 7 % (m.ch - m.cl + 1) ≤ m.ch; omega
theorem mk_vld {n : Nat} {f : Nat → Met} (n1 : 1 ≤ n) (n6 : n ≤ 6) (hp : ∀ i, i < n → 0 ≤ (f i).p ∧ (f i).p ≤ 1000) (hl : ∀ i, i < n → 0 ≤ (f i).ll ∧ (f i).ll ≤ (f i).lh ∧ (f i).lh ≤ 1000) (hc : ∀ i, i < n → 0 ≤ (f i).cl ∧ (f i).cl ≤ (f i).ch ∧ (f i).ch ≤ 1000) : VldM (mkM n f) := by
 have z : ∀ i, ¬ i < n → mtl (mkM n f) i = ⟨0, 0, 0, 0, 0⟩ := fun i h => mtl_ge (by rw [mkM_len]; omega)
 refine ⟨by rw [mkM_len]; exact n1, by rw [mkM_len]; exact n6, fun i => ?_, fun i => ?_, fun i => ?_⟩
 ·by_cases h : i < n
  ·rw [mkM_at f h]; exact hp i h
  ·rw [z i h]; decide
 ·by_cases h : i < n
  ·rw [mkM_at f h]; exact hl i h
  ·rw [z i h]; decide
 ·by_cases h : i < n
  ·rw [mkM_at f h]; exact hc i h
  ·rw [z i h]; decide
theorem knL_at {l : List Met} (p : List Int) {i : Nat} (h : i < l.length) : mtl (knL l p) i = knM (mtl l i) (plN p i) := mkM_at _ h
theorem vld_chk {l : List Met} (v : VldM l) {u c : Int} (hu : 0 ≤ u ∧ u ≤ 1000) (hc : 0 ≤ c ∧ c ≤ 1000) : chkB l u c = 0 := by
 unfold chkB
 rw [if_pos (chkM_ok.2 v)]
 unfold chkU
 rw [inR_iff.2 hu, inR_iff.2 hc]
 rfl
theorem vld_fit {l : List Met} (v : VldM l) : FitM l := fun i => by
 have a := v.pr i; have b := v.le i; have c := v.co i
 exact ⟨⟨by omega, by omega⟩, ⟨by omega, by omega⟩, ⟨by omega, by omega⟩, ⟨by omega, by omega⟩, ⟨by omega, by omega⟩⟩
theorem isG_mono {l l' : List Met} {u c u' c' : Int} {s s' : Bool} {x : List Int} (hn : l'.length = l.length) (hl : x.length = l.length) (nn : ∀ i, 0 ≤ nth x i) (hu : u ≤ u') (hc : c' ≤ c)
 (h1 : ∀ i, i < l.length → badL (mtl l' i) s' ≤ badL (mtl l i) s) (h2 : ∀ i, i < l.length → goodC (mtl l i) s ≤ goodC (mtl l' i) s') (h : isG l u c s x = true) : isG l' u' c' s' x = true := by
 unfold isG at h ⊢
 rw [Bool.and_eq_true, decide_eq_true_eq, decide_eq_true_eq] at h ⊢
 have p0 := psum_nn nn
 have a1 : ledN l' s' x l'.length ≤ ledN l s x l.length := by
  unfold ledN; rw [hn]; exact sm_le fun i hi => Int.mul_le_mul_of_nonneg_left (h1 i hi) (nn i)
 have a2 : copN l s x l.length ≤ copN l' s' x l'.length := by
  unfold copN; rw [hn]; exact sm_le fun i hi => Int.mul_le_mul_of_nonneg_left (h2 i hi) (nn i)
 have b1 := Int.mul_le_mul_of_nonneg_right hu p0
 have b2 := Int.mul_le_mul_of_nonneg_right hc p0
 omega
theorem bstF {p q : Nat → Int} {lt : Nat → Nat → Bool} {n : Nat} (h : ∀ i j, i < n → j < n → lt i j = decide (p i * q j < p j * q i)) (hq : ∀ i, i < n → 0 < q i) (h0 : 0 < n) {j : Nat} (hj : j < n) :
 p (bstN lt (n - 1)) * q j ≤ p j * q (bstN lt (n - 1)) := by
 have hb := bstN_le lt (n - 1)
 have := bstN_best (lt := lt) (n := n)
  (fun i hi => by rw [h i i hi hi, decide_eq_false_iff_not]; omega)
  (fun a b d ha hb hd h1 h2 => by
   rw [h a b ha hb, decide_eq_true_eq] at h1
   rw [h b d hb hd, decide_eq_true_eq] at h2
   rw [h a d ha hd, decide_eq_true_eq]
   exact lt_trans3 (hq a ha) (hq b hb) (hq d hd) h1 h2) (n - 1) (by omega) j (by omega)
 rw [h j _ hj (by omega), decide_eq_false_iff_not] at this
 omega
theorem shLo_le {m : Nat} {L : List (List Int)} (hL : ∀ x ∈ L, 0 < psum x) {y : List Int} (hy : y ∈ L) : shLo m L ∈ L ∧ nth (shLo m L) m * psum y ≤ nth y m * psum (shLo m L) := by
 obtain ⟨j, hj, e⟩ := List.getElem_of_mem hy
 have ok : ∀ i, i < L.length → 0 < psum (row L i) := fun i hi => hL _ (by rw [row_lt hi]; exact List.getElem_mem hi)
 refine ⟨best_in (by omega) _, ?_⟩
 have := bstF (p := fun i => nth (row L i) m) (q := fun i => psum (row L i)) (lt := fun i j => lessB (shN m (row L i)) (shD m (row L i)) (shN m (row L j)) (shD m (row L j))) (n := L.length) (fun i j hi hj => rat_lt (ok i hi) (ok j hj)) ok (by omega) hj
 rw [← e, ← row_lt hj]
 exact this
theorem shHi_ge {m : Nat} {L : List (List Int)} (hL : ∀ x ∈ L, 0 < psum x) {y : List Int} (hy : y ∈ L) : shHi m L ∈ L ∧ nth y m * psum (shHi m L) ≤ nth (shHi m L) m * psum y := by
 obtain ⟨j, hj, e⟩ := List.getElem_of_mem hy
 have ok : ∀ i, i < L.length → 0 < psum (row L i) := fun i hi => hL _ (by rw [row_lt hi]; exact List.getElem_mem hi)
 refine ⟨best_in (by omega) _, ?_⟩
 have := bstF (p := fun i => - nth (row L i) m) (q := fun i => psum (row L i)) (lt := fun i j => lessB (shN m (row L j)) (shD m (row L j)) (shN m (row L i)) (shD m (row L i))) (n := L.length) (fun i j hi hj => by
  rw [show lessB (shN m (row L j)) (shD m (row L j)) (shN m (row L i)) (shD m (row L i)) = decide (nth (row L j) m * psum (row L i) < nth (row L i) m * psum (row L j)) from rat_lt (ok j hj) (ok i hi), Int.neg_mul, Int.neg_mul]
  exact decide_eq_decide.2 (by omega)) ok (by omega) hj
 rw [Int.neg_mul, Int.neg_mul] at this
 rw [← e, ← row_lt hj]
 unfold shHi
 omega
theorem edP_ps {l : List Met} {u c : Int} (hB : chkB l u c = 0) {s : Bool} : ∀ x ∈ edP l u c s, 0 < psum x := fun x hx => by
 obtain ⟨v, hu, hc⟩ := chkB_ok hB
 exact (edP_ok v hu hc hx).1.pos
theorem edg_ps {l : List Met} {u c : Int} (hB : chkB l u c = 0) {s : Bool} : ∀ x ∈ edg l u c s, 0 < psum x := fun x hx => by
 obtain ⟨v, hu, hc⟩ := chkB_ok hB
 exact (edg_ok v hu hc hx).1.pos
def one (m : Nat) (k : Int) (i : Nat) : Int := if i = m then k else 0
theorem fsm_one {l : List Met} {m : Nat} (hm : m < l.length) (k : Int) (x : List Int) : fsm l (one m k) x = k * nth x m := by
 unfold fsm
 rw [sm_split _ hm, sm_zero (f := fun i => if i = m then 0 else nth x i * one m k i) fun i _ => by
  split
  ·rfl
  ·rename_i h; unfold one; rw [if_neg h]; omega]
 unfold one; rw [if_pos rfl]; rw [Int.mul_comm]; omega
theorem sh_ends {l : List Met} {u c : Int} (hB : chkB l u c = 0) {s : Bool} (h : cheE l u c s = 0) {m : Nat} (hm : m < l.length) :
 (shLo m (edP l u c s) ∈ edg l u c s ∧ ∀ x, Gx l u c s x → nth (shLo m (edP l u c s)) m * psum x ≤ nth x m * psum (shLo m (edP l u c s))) ∧
 (shHi m (edP l u c s) ∈ edg l u c s ∧ ∀ x, Gx l u c s x → nth x m * psum (shHi m (edP l u c s)) ≤ nth (shHi m (edP l u c s)) m * psum x) := by
 obtain ⟨v, hu, hc⟩ := chkB_ok hB
 have hm0 := chp_mem (che_pos hB h)
 have i1 := edP_sub v hu hc (shLo_le (m := m) (edP_ps hB) hm0).1
 have i2 := edP_sub v hu hc (shHi_ge (m := m) (edP_ps hB) hm0).1
 have p1 := edg_ps hB _ i1
 have p2 := edg_ps hB _ i2
 refine ⟨⟨i1, fun x g => ?_⟩, i2, fun x g => ?_⟩
 ·obtain ⟨y, hy, hle⟩ := edge_min v (one m 1) g
  rw [fsm_one hm, fsm_one hm, Int.one_mul, Int.one_mul] at hle
  exact ratio_trans (edg_ps hB _ hy) p1 g.ps (shLo_le (m := m) (edP_ps hB) (edg_sub v hu hc hy)).2 hle
 ·obtain ⟨y, hy, hle⟩ := edge_min v (one m (-1)) g
  rw [fsm_one hm, fsm_one hm] at hle
  have h1 := (shHi_ge (m := m) (edP_ps hB) (edg_sub v hu hc hy)).2
  have := ratio_trans (a := - nth (shHi m (edP l u c s)) m) (b := psum (shHi m (edP l u c s))) (c := - nth y m) (d := psum y) (e := - nth x m) (f := psum x) (edg_ps hB _ hy) p2 g.ps (by rw [Int.neg_mul, Int.neg_mul]; omega) (by
   rw [show -1 * nth y m * psum x = - nth y m * psum x by grind, show -1 * nth x m * psum y = - nth x m * psum y by grind] at hle
   exact hle)
  rw [Int.neg_mul, Int.neg_mul] at this
  omega
theorem share_small {n : Nat} (n6 : n ≤ 6) {x : List Int} (vx : VldX x n) {m : Nat} (hm : m < n) : OkS (shN m x) (shD m x) ∧ shN m x ≤ shD m x := by
 have hs := psum_le n6 vx.len vx.le vx.nn
 have hb : nth x m ≤ psum x := by
  unfold psum
  rw [vx.len]
  exact sm_one (fun i _ => vx.nn i) hm
 have h0 := vx.nn m
 obtain ⟨e1, e2, g1⟩ := rat_spec (nth x m) vx.ps
 have k1 := gcd_pos (a := nth x m) vx.ps
 have hd := ratD_bd (a := nth x m) vx.ps
 have hps := vx.ps
 have rc : Int.gcd (ratN (nth x m) (psum x)) (ratD (nth x m) (psum x)) = 1 := Int.gcd_ediv_gcd_ediv_gcd (by omega)
 unfold shN shD
 generalize nth x m = C at *
 generalize psum x = P at *
 have hN : 0 ≤ ratN C P := by unfold ratN; exact Int.ediv_nonneg h0 (by omega)
 have hle : ratN C P ≤ ratD C P := by
  generalize ratN C P = N at *
  generalize ratD C P = D at *
  generalize (Int.gcd C P : Int) = g at *
  rw [e1, e2] at hb
  exact Int.le_of_mul_le_mul_right hb k1
 exact ⟨⟨hN, by omega, hd.1, by omega, rc⟩, hle⟩
theorem she_che {l : List Met} {u c : Int} (hB : chkB l u c = 0) (s : Bool) {m : Nat} (hm : m < l.length) : shE l u c s (m : Int) = cheE l u c s := by
 unfold shE cheE
 have h1 : ¬ inR 0 ((l.length : Int) - 1) (m : Int) = false := by rw [inR_iff.2 ⟨by omega, by omega⟩]; decide
 rw [Bool.not_eq_false] at h1
 simp [hB, h1]
theorem shX_at {l : List Met} {u c : Int} (hB : chkB l u c = 0) {s : Bool} {m : Nat} (hm : m < l.length) (h : cheE l u c s = 0) :
 shX l u c s (m : Int) = [shN m (shLo m (edP l u c s)), shD m (shLo m (edP l u c s)), shN m (shHi m (edP l u c s)), shD m (shHi m (edP l u c s))] := by
 unfold shX
 rw [she_che hB s hm, if_pos h, Int.toNat_natCast]
structure ShOk (l : List Met) (u c : Int) (s : Bool) (m : Nat) (A B C D : Int) : Prop where
 o1 : OkS A B
 o2 : OkS C D
 le : lessB C D A B = false
 one : ¬ D < C
 lo : ∀ x, Gx l u c s x → lessB (shN m x) (shD m x) A B = false
 hi : ∀ x, Gx l u c s x → lessB C D (shN m x) (shD m x) = false
theorem sh_all {l : List Met} {u c : Int} (hB : chkB l u c = 0) {s : Bool} {m : Nat} (hm : m < l.length) (h : cheE l u c s = 0) :
 ShOk l u c s m (nth (shX l u c s (m : Int)) 0) (nth (shX l u c s (m : Int)) 1) (nth (shX l u c s (m : Int)) 2) (nth (shX l u c s (m : Int)) 3) := by
 rw [shX_at hB hm h]
 obtain ⟨v, hu, hc⟩ := chkB_ok hB
 obtain ⟨⟨i1, h1⟩, i2, h2⟩ := sh_ends hB h hm
 have v1 := edg_vld v hu hc i1
 have v2 := edg_vld v hu hc i2
 have s1 := share_small v.n6 v1 hm
 have s2 := share_small v.n6 v2 hm
 have lo : ∀ x, Gx l u c s x → lessB (shN m x) (shD m x) (shN m (shLo m (edP l u c s))) (shD m (shLo m (edP l u c s))) = false := fun x g => by
  have := rat_lt (p := nth x m) (q := psum x) (r := nth (shLo m (edP l u c s)) m) (s := psum (shLo m (edP l u c s))) g.ps v1.ps
  unfold shN shD
  rw [this, decide_eq_false_iff_not]
  have := h1 x g
  omega
 have hi : ∀ x, Gx l u c s x → lessB (shN m (shHi m (edP l u c s))) (shD m (shHi m (edP l u c s))) (shN m x) (shD m x) = false := fun x g => by
  have := rat_lt (p := nth (shHi m (edP l u c s)) m) (q := psum (shHi m (edP l u c s))) (r := nth x m) (s := psum x) v2.ps g.ps
  unfold shN shD
  rw [this, decide_eq_false_iff_not]
  have := h2 x g
  omega
 exact ⟨s1.1, s2.1, hi _ (edg_gx v hu hc i1), by have := s2.2; change ¬ shD m (shHi m (edP l u c s)) < shN m (shHi m (edP l u c s)); omega, lo, hi⟩
theorem gx_soft {l : List Met} {u c u' c' : Int} {s : Bool} (hu : u ≤ u') (hc : c' ≤ c) {x : List Int} (g : Gx l u c s x) : Gx l u' c' s x :=
 ⟨g.len, g.nn, g.ps, isG_mono rfl g.len g.nn hu hc (fun _ _ => Int.le_refl _) (fun _ _ => Int.le_refl _) g.gd⟩
theorem sh_soft {l : List Met} {u c u' c' : Int} {s : Bool} (hB : chkB l u c = 0) (hB' : chkB l u' c' = 0) (hu : u ≤ u') (hc : c' ≤ c) {m : Nat} (hm : m < l.length) (h : cheE l u c s = 0) (h' : cheE l u' c' s = 0) :
 lessB (nth (shX l u c s (m : Int)) 0) (nth (shX l u c s (m : Int)) 1) (nth (shX l u' c' s (m : Int)) 0) (nth (shX l u' c' s (m : Int)) 1) = false ∧
 lessB (nth (shX l u' c' s (m : Int)) 2) (nth (shX l u' c' s (m : Int)) 3) (nth (shX l u c s (m : Int)) 2) (nth (shX l u c s (m : Int)) 3) = false := by
 have k := sh_all hB' hm h'
 obtain ⟨v, uu, cc⟩ := chkB_ok hB
 obtain ⟨⟨i1, _⟩, i2, _⟩ := sh_ends hB h hm
 rw [shX_at hB hm h]
 exact ⟨k.lo _ (gx_soft hu hc (edg_gx v uu cc i1)), k.hi _ (gx_soft hu hc (edg_gx v uu cc i2))⟩
def narL (l : List Met) (i : Nat) (x : Int) : List Met := mkM l.length fun j => if j = i then knM (mtl l i) x else mtl l j
theorem narL_len (l : List Met) (i : Nat) (x : Int) : (narL l i x).length = l.length := mkM_len _ _
theorem narL_vld {l : List Met} (v : VldM l) (i : Nat) (x : Int) : VldM (narL l i x) := by
 have q := knM_in (v.le i) (v.co i) x
 have vl := v.le i; have vc := v.co i
 refine mk_vld v.n1 v.n6 (fun j _ => ?_) (fun j _ => ?_) (fun j _ => ?_)
 ·by_cases e : j = i
  ·rw [if_pos e, q.2.2.2.2]; exact v.pr i
  ·rw [if_neg e]; exact v.pr j
 ·by_cases e : j = i
  ·rw [if_pos e]; omega
  ·rw [if_neg e]; exact v.le j
 ·by_cases e : j = i
  ·rw [if_pos e]; omega
  ·rw [if_neg e]; exact v.co j
theorem narL_at {l : List Met} (i : Nat) (x : Int) {j : Nat} (h : j < l.length) : mtl (narL l i x) j = if j = i then knM (mtl l i) x else mtl l j := mkM_at _ h
theorem des_nar {l : List Met} {u c : Int} (hB : chkB l u c = 0) (i : Nat) (y : Int) {x : List Int} (vx : VldX x l.length) (h : desE l u c true x = 0) : desE (narL l i y) u c true x = 0 := by
 obtain ⟨v, hu, hc⟩ := chkB_ok hB
 have hK := vld_chk (narL_vld v i y) hu hc
 refine (gx_des hK (by rw [narL_len]; exact vx)).2 ?_
 have g := (gx_des hB vx).1 h
 refine ⟨by rw [narL_len]; exact g.len, g.nn, g.ps, isG_mono (narL_len l i y) g.len g.nn (Int.le_refl _) (Int.le_refl _) (fun j hj => ?_) (fun j hj => ?_) g.gd⟩
 ·rw [narL_at i y hj]
  have q := knM_in (v.le i) (v.co i) y
  by_cases e : j = i
  ·subst e; rw [if_pos rfl]; unfold badL; simp only [if_true]; omega
  ·rw [if_neg e]; exact Int.le_refl _
 ·rw [narL_at i y hj]
  have q := knM_in (v.le i) (v.co i) y
  by_cases e : j = i
  ·subst e; rw [if_pos rfl]; unfold goodC; simp only [if_true]; omega
  ·rw [if_neg e]; exact Int.le_refl _
set_option maxHeartbeats 4000000 in
theorem leastL_any (l : List Met) (q : FitM l) {u c : Int} (hB : chkB l u c = 0) (a : Option Addr) (cap : Nat) (iu : I64 u) (ic : I64 c) (s : Bool) (w : World) (hM : Mts w a l) :
 Calls Try.prog 44 #[.slice a l.length cap, (.agg #[.int .i64 (u), .int .i64 (c)]), .bool s] w fun e w' => e = .returned (.tuple #[(.agg #[.int .i64 (lstN l u c s), .int .i64 (lstD l u c s)]), .bool (decide (cheE l u c s = 0)), .bool true]) ∧ Ext w w' := by
 obtain ⟨v, hu, hc⟩ := chkB_ok hB
 have n6 := v.n6
 have hle := hid (fun W hW => least_any l q (by omega) a cap u c iu ic s W hW)
 have heq : ∀ (p q : Int) w, (Op.equalIn 10000 29 (.agg #[.int .i64 p, .int .i64 q]) (.agg #[.int .i64 p, .int .i64 q])).run Try.prog w = .ok true w := fun p q w => by rw [run_eqRatio]; simp
 have hz := lst_zero l u c s
 have hok := lst_ok hB s
 replace hM := hid hM
 obtain ⟨N, hN⟩ : ∃ z, lstN l u c s = z := ⟨_, rfl⟩
 obtain ⟨D, hD⟩ : ∃ z, lstD l u c s = z := ⟨_, rfl⟩
 rw [hN, hD] at hle hz hok ⊢
 rcases che_two hB s with g | g
 ·rw [g] at hle ⊢
  have k := hok g
  have hsm := hid (fun W => smallL_any N D k W)
  clear q v hu hc hB n6 hN hD hz hok k g
  go_enter Try.func44, Try.ntmps44
  go_wp2_with fail
  refine name_c (fun w0 hw0 => ?_)
  have X := hid (show Ext w w0 by rw [hw0]; exact exE)
  have rb := hid (show Bx2 w0 (w.heap.size + 1) 0 0 from ⟨by rw [hw0]; simp [go_sem], by rw [hw0]; simp [go_sem], by rw [hw0]; simp [go_sem], by rw [hw0]; simp [go_sem]⟩)
  clear hw0
  obtain ⟨B, hB⟩ : ∃ B, w.heap.size + 1 = B := ⟨_, rfl⟩
  rw [hB] at rb ⊢
  have hBB := hid (show w.heap.size ≤ B by omega)
  clear hB
  refine (hle.out _ (hM.out.ext X.out)).mono ?_; rintro e u1 ⟨rfl, hE⟩
  replace X := hid (X.out.trans hE)
  replace rb := hid (rb.out.ext hE)
  clear hE hle
  have lB := rb.out.lt
  go_upto_region 4 with (fail)
  refine name_wp (fun v1 hv => ?_)
  have x1 : Ext u1 v1 := by rw [hv]; exact exE
  have b0 : v1.cell? ⟨u1.heap.size, 0, none⟩ = some (.int .i64 N) := by rw [hv]; simp [go_sem]
  have b1 : v1.cell? ⟨u1.heap.size, 1, none⟩ = some (.int .i64 D) := by rw [hv]; simp [go_sem]
  have rb1 := rb.out.ext x1
  have xw := X.out.trans x1
  have hBl := rb.out.lt
  clear hv X x1 rb lB
  obtain ⟨C, hC⟩ : ∃ B, u1.heap.size = B := ⟨_, rfl⟩
  rw [hC] at b0 b1 hBl ⊢
  clear hC
  have hBn := hBB.out
  refine wp_mono (Q := calmS _) ?_ calmS_of
  refine wp_region_held_drew (S := fun w' => Ext w w' ∧ w'.cell? ⟨C, 0, none⟩ = some (.int .i64 N) ∧ w'.cell? ⟨C, 1, none⟩ = some (.int .i64 D)) (by kernel_rfl) ⟨xw.trans exE, (show Ext v1 _ from exE).cell b0, (show Ext v1 _ from exE).cell b1⟩ fun hHeld => ?_
  (refine tkA (i := 0) (v := ?_) rfl (fun _ _ _ h => h) (Or.inl ⟨by rfl, ?yl⟩) (by assumption) ?_; (case yl => ((intro w hSw; (try dsimp only at hSw); obtain ⟨_, kk0, kk1⟩ := hSw; go_simp); with_reducible rfl)); (try simp only [sxA, sxB, sxC, Act.put, sxD, sxE, sxF]))
  (refine tkA (i := 1) (v := ?_) rfl (fun _ _ _ h => h) (Or.inl ⟨by rfl, ?yl⟩) (by assumption) ?_; (case yl => ((intro w hSw; (try dsimp only at hSw); obtain ⟨_, kk0, kk1⟩ := hSw; go_simp); with_reducible rfl)); (try simp only [sxA, sxB, sxC, Act.put, sxD, sxE, sxF]))
  (refine tkA (i := 2) (v := ?_) rfl (fun _ _ _ h => h) (Or.inl ⟨by rfl, ?yl⟩) (by assumption) ?_; (case yl => ((intro w hSw; (try dsimp only at hSw); obtain ⟨_, kk0, kk1⟩ := hSw; go_simp); with_reducible rfl)); (try simp only [sxA, sxB, sxC, Act.put, sxD, sxE, sxF]))
  (refine tkA (i := 3) (v := ?_) rfl (fun _ _ _ h => h) (Or.inl ⟨by rfl, ?yl⟩) (by assumption) ?_; (case yl => ((intro w hSw; (try dsimp only at hSw); obtain ⟨_, kk0, kk1⟩ := hSw; go_simp); with_reducible rfl)); (try simp only [sxA, sxB, sxC, Act.put, sxD, sxE, sxF]))
  (refine tkA (i := 4) (v := ?_) rfl (fun _ _ _ h => h) (Or.inl ⟨by rfl, ?yl⟩) (by assumption) ?_; (case yl => ((intro w hSw; (try dsimp only at hSw); obtain ⟨_, kk0, kk1⟩ := hSw; go_simp); with_reducible rfl)); (try simp only [sxA, sxB, sxC, Act.put, sxD, sxE, sxF]))
  (refine wpAnyH_ready (rs := [5]) (by kernel_rfl) (by simp) ?_; refine AllReadyH.cons (o := _) rfl (fun K hK => ?_) AllReadyH.nil)
  go_simp
  refine (hsm.out _).mono ?_; rintro e w5 ⟨rfl, hE5⟩
  have x5 : Ext v1 w5 := exE
  refine hK.out _ _ ⟨xw.trans x5, x5.cell b0, x5.cell b1⟩ (fun hHeld => ?_)
  clear hK K
  (try simp only [sxA, sxB, sxC, Act.put, sxD, sxE, sxF])
  (refine tkA (i := 6) (v := ?_) rfl (fun _ _ _ h => h) (Or.inl ⟨by rfl, ?yl⟩) (by assumption) ?_; (case yl => ((intro w hSw; (try dsimp only at hSw); obtain ⟨_, kk0, kk1⟩ := hSw; go_simp); with_reducible rfl)); (try simp only [sxA, sxB, sxC, Act.put, sxD, sxE, sxF]))
  (refine wpAnyH_ready (rs := [7]) (by kernel_rfl) (by simp) ?_; refine AllReadyH.cons (o := _) rfl (fun K hK => ?_) AllReadyH.nil)
  have A6 := rb1.ext x5
  obtain ⟨c0, c1, g0, g1⟩ := A6
  have y0 := cell_lt c0
  dsimp only at y0
  go_simp
  obtain ⟨w7, hw7⟩ : ∃ w7, w7 = (w5.setCell ⟨B, 0, none⟩ (.int .i64 N)).setCell ⟨B, 1, none⟩ (.int .i64 D) := ⟨_, rfl⟩
  have X5 := xw.trans x5
  have X7 : Ext w w7 := by rw [hw7]; exact exE
  have b07 : w7.cell? ⟨C, 0, none⟩ = some (.int .i64 N) := by rw [hw7]; exact box_put (by omega) (box_put (by omega) (x5.cell b0))
  have b17 : w7.cell? ⟨C, 1, none⟩ = some (.int .i64 D) := by rw [hw7]; exact box_put (by omega) (box_put (by omega) (x5.cell b1))
  have A7 : Bx2 w7 B N D := by rw [hw7]; exact Bx2.store ⟨c0, c1, g0, g1⟩ _ _
  rw [← hw7]
  clear hw7
  refine hK.out _ _ ⟨X7, b07, b17⟩ (fun hHeld => ?_)
  clear hK K
  clear c0 c1 g0 g1 y0 x5 hE5
  (try simp only [sxA, sxB, sxC, Act.put, sxD, sxE, sxF])
  (refine tkA (i := 8) (v := ?_) rfl (fun _ _ _ h => h) (Or.inl ⟨by rfl, ?yl⟩) (by assumption) ?_; (case yl => ((intro w hSw; (try dsimp only at hSw); obtain ⟨_, kk0, kk1⟩ := hSw; go_simp); with_reducible rfl)); (try simp only [sxA, sxB, sxC, Act.put, sxD, sxE, sxF]))
  (refine tkA (i := 9) (v := ?_) rfl (fun _ _ _ h => h) (Or.inl ⟨by rfl, ?yl⟩) (by assumption) ?_; (case yl => ((intro w hSw; (try dsimp only at hSw); obtain ⟨_, kk0, kk1⟩ := hSw; go_simp); with_reducible rfl)); (try simp only [sxA, sxB, sxC, Act.put, sxD, sxE, sxF]))
  refine wpAnyH_done (by kernel_rfl) ?_ _
  obtain ⟨c0, c1, _, _⟩ := A7
  simp only [calmS]
  go_wp2_with fail
  refine bodyPost_ret (v := .tuple #[(.agg #[.int .i64 (N), .int .i64 (D)]), .bool true, .bool true]) ?_ rfl ⟨rfl, X7⟩
  simp [results, Try.results44, go_sem, *]
 ·have hz := hz (by rw [g]; decide)
  obtain ⟨rfl, rfl⟩ := hz
  rw [g] at hle ⊢
  clear q v hu hc hB n6 hN hD hok g
  go_enter Try.func44, Try.ntmps44
  go_wp2_with fail
  refine name_c (fun w0 hw0 => ?_)
  have X := hid (show Ext w w0 by rw [hw0]; exact exE)
  have rb := hid (show Bx2 w0 (w.heap.size + 1) 0 0 from ⟨by rw [hw0]; simp [go_sem], by rw [hw0]; simp [go_sem], by rw [hw0]; simp [go_sem], by rw [hw0]; simp [go_sem]⟩)
  clear hw0
  obtain ⟨B, hB⟩ : ∃ B, w.heap.size + 1 = B := ⟨_, rfl⟩
  rw [hB] at rb ⊢
  have hBB := hid (show w.heap.size ≤ B by omega)
  clear hB
  refine (hle.out _ (hM.out.ext X.out)).mono ?_; rintro e u1 ⟨rfl, hE⟩
  replace X := hid (X.out.trans hE)
  replace rb := hid (rb.out.ext hE)
  clear hE hle
  have lB := rb.out.lt
  go_upto_region 3 with (fail)
  refine name_wp (fun v1 hv => ?_)
  have x1 : Ext u1 v1 := by rw [hv]; exact exE
  have b0 : v1.cell? ⟨u1.heap.size, 0, none⟩ = some (.int .i64 0) := by rw [hv]; simp [go_sem]
  have b1 : v1.cell? ⟨u1.heap.size, 1, none⟩ = some (.int .i64 0) := by rw [hv]; simp [go_sem]
  have rb1 := rb.out.ext x1
  have xw := X.out.trans x1
  have hBl := rb.out.lt
  clear hv X x1 rb lB
  obtain ⟨C, hC⟩ : ∃ B, u1.heap.size = B := ⟨_, rfl⟩
  rw [hC] at b0 b1 hBl ⊢
  clear hC
  have hBn := hBB.out
  refine wp_mono (Q := calmS _) ?_ calmS_of
  refine wp_region_held_drew (S := fun w' => Ext w w' ∧ w'.cell? ⟨C, 0, none⟩ = some (.int .i64 0) ∧ w'.cell? ⟨C, 1, none⟩ = some (.int .i64 0)) (by kernel_rfl) ⟨xw.trans exE, (show Ext v1 _ from exE).cell b0, (show Ext v1 _ from exE).cell b1⟩ fun hHeld => ?_
  (refine tkA (i := 0) (v := ?_) rfl (fun _ _ _ h => h) (Or.inl ⟨by rfl, ?yl⟩) (by assumption) ?_; (case yl => ((intro w hSw; (try dsimp only at hSw); obtain ⟨_, kk0, kk1⟩ := hSw; go_simp); with_reducible rfl)); (try simp only [sxA, sxB, sxC, Act.put, sxD, sxE, sxF]))
  (refine tkA (i := 1) (v := ?_) rfl (fun _ _ _ h => h) (Or.inl ⟨by rfl, ?yl⟩) (by assumption) ?_; (case yl => ((intro w hSw; (try dsimp only at hSw); obtain ⟨_, kk0, kk1⟩ := hSw; go_simp); with_reducible rfl)); (try simp only [sxA, sxB, sxC, Act.put, sxD, sxE, sxF]))
  (refine tkA (i := 2) (v := ?_) rfl (fun _ _ _ h => h) (Or.inl ⟨by rfl, ?yl⟩) (by assumption) ?_; (case yl => ((intro w hSw; (try dsimp only at hSw); obtain ⟨_, kk0, kk1⟩ := hSw; go_simp); with_reducible rfl)); (try simp only [sxA, sxB, sxC, Act.put, sxD, sxE, sxF]))
  (refine tkA (i := 3) (v := ?_) rfl (fun _ _ _ h => h) (Or.inl ⟨by rfl, ?yl⟩) (by assumption) ?_; (case yl => ((intro w hSw; (try dsimp only at hSw); obtain ⟨_, kk0, kk1⟩ := hSw; go_simp); with_reducible rfl)); (try simp only [sxA, sxB, sxC, Act.put, sxD, sxE, sxF]))
  (refine wpAnyH_ready (rs := [4]) (by kernel_rfl) (by simp) ?_; refine AllReadyH.cons (o := _) rfl (fun K hK => ?_) AllReadyH.nil)
  obtain ⟨c0, c1, g0, g1⟩ := rb1
  have y0 := cell_lt c0
  dsimp only at y0
  go_simp
  obtain ⟨w6, hw6⟩ : ∃ w6, w6 = (v1.setCell ⟨B, 0, none⟩ (.int .i64 0)).setCell ⟨B, 1, none⟩ (.int .i64 0) := ⟨_, rfl⟩
  have X6 : Ext w w6 := by rw [hw6]; have := xw; exact exE
  have b06 : w6.cell? ⟨C, 0, none⟩ = some (.int .i64 0) := by rw [hw6]; exact box_put (by omega) (box_put (by omega) b0)
  have b16 : w6.cell? ⟨C, 1, none⟩ = some (.int .i64 0) := by rw [hw6]; exact box_put (by omega) (box_put (by omega) b1)
  have A6 : Bx2 w6 B 0 0 := by rw [hw6]; exact Bx2.store ⟨c0, c1, g0, g1⟩ _ _
  rw [← hw6]
  clear hw6
  obtain ⟨w7, hw7⟩ : ∃ w7, w7 = w6.drew := ⟨_, rfl⟩
  have x67 : Ext w6 w7 := by rw [hw7]; exact exE
  have X7 := X6.trans x67
  have b07 := x67.cell b06
  have b17 := x67.cell b16
  have A7 := A6.ext x67
  clear x67 X6 b06 b16 A6
  rw [← hw7]
  clear hw7
  refine hK.out _ _ ⟨X7, b07, b17⟩ (fun hHeld => ?_)
  clear hK K
  clear c0 c1 g0 g1 y0
  (try simp only [sxA, sxB, sxC, Act.put, sxD, sxE, sxF])
  (refine tkA (i := 5) (v := ?_) rfl (fun _ _ _ h => h) (Or.inl ⟨by rfl, ?yl⟩) (by assumption) ?_; (case yl => ((intro w hSw; (try dsimp only at hSw); obtain ⟨_, kk0, kk1⟩ := hSw; go_simp); with_reducible rfl)); (try simp only [sxA, sxB, sxC, Act.put, sxD, sxE, sxF]))
  (refine tkA (i := 6) (v := ?_) rfl (fun _ _ _ h => h) (Or.inl ⟨by rfl, ?yl⟩) (by assumption) ?_; (case yl => ((intro w hSw; (try dsimp only at hSw); obtain ⟨_, kk0, kk1⟩ := hSw; go_simp); with_reducible rfl)); (try simp only [sxA, sxB, sxC, Act.put, sxD, sxE, sxF]))
  refine wpAnyH_done (by kernel_rfl) ?_ _
  obtain ⟨c0, c1, _, _⟩ := A7
  simp only [calmS]
  go_wp2_with fail
  refine bodyPost_ret (v := .tuple #[(.agg #[.int .i64 (0), .int .i64 (0)]), .bool false, .bool true]) ?_ rfl ⟨rfl, X7⟩
  simp [results, Try.results44, go_sem, *]
set_option maxHeartbeats 40000000 in
theorem stK9 {yA yB yC yD yE yF yG yJ yK yL yM yN yO yP yQ yR yS yT yU yV yW yX yY yZ zA zB zC zD zE zF zG zH zI zJ zK zL zM zN zO zP zQ zR zS zT zU zV zW zX zY zZ uA uB uC uD uE uF uG uH uI uJ uK uL uM uN uO uP uQ uR uS uT : Value} {B : Nat} {p ll lh cl ch x E1 D1 A L Q E2 D2 M C : Int} {w : World} (t0 : w.cell? ⟨B, 0, none⟩ = some (.int .i64 p)) (t1 : w.cell? ⟨B, 1, none⟩ = some (.int .i64 ll)) (t2 : w.cell? ⟨B, 2, none⟩ = some (.int .i64 lh)) (t3 : w.cell? ⟨B, 3, none⟩ = some (.int .i64 cl)) (t4 : w.cell? ⟨B, 4, none⟩ = some (.int .i64 ch)) (a1 : IntKind.i64.wrap (lh - ll) = E1) (a2 : IntKind.i64.wrap (E1 + 1) = D1) (a0 : ¬ D1 = 0) (a3 : x.tmod D1 = A) (r1 : 0 ≤ A ∧ A ≤ 1000) (a5 : IntKind.i64.wrap (ll + A) = L) (c1 : x.tdiv 7 = Q) (r2 : 0 ≤ Q ∧ Q ≤ 65535) (c2 : IntKind.i64.wrap (ch - cl) = E2) (c3 : IntKind.i64.wrap (E2 + 1) = D2) (c0 : ¬ D2 = 0) (c4 : Q.tmod D2 = M) (r3 : 0 ≤ M ∧ M ≤ 1000) (c5 : IntKind.i64.wrap (cl + M) = C) :
 Code.wp Try.prog (rgn Try.f47 9) (fun e a' w' => e = .normal ∧ ∃ (zG' zH' zI' zJ' zK' zL' zM' zN' zO' zP' zQ' zR' zS' zT' zU' zV' zW' zX' zY' zZ' uA' uB' uC' uD' uE' uF' uG' uH' uI' : Value), a' = { tmps := #[yA,yB,yC,yD,yE,yF,yG,.pointer (some ⟨B, 0, none⟩),.int .i64 x,.int .i64 L,.int .i64 C,yL,yM,yN,yO,yP,yQ,yR,yS,yT,yU,yV,yW,yX,yY,yZ,zA,zB,zC,zD,zE,zF,zG',zH',zI',zJ',zK',zL',zM',zN',zO',zP',zQ',zR',zS',zT',zU',zV',zW',zX',zY',zZ',uA',uB',uC',uD',uE',uF',uG',uH',uI',uJ,uK,uL,uM,uN,uO,uP,uQ,uR,uS,uT], defers := [] } ∧ Ext w w') { tmps := #[yA,yB,yC,yD,yE,yF,yG,.pointer (some ⟨B, 0, none⟩),.int .i64 x,yJ,yK,yL,yM,yN,yO,yP,yQ,yR,yS,yT,yU,yV,yW,yX,yY,yZ,zA,zB,zC,zD,zE,zF,zG,zH,zI,zJ,zK,zL,zM,zN,zO,zP,zQ,zR,zS,zT,zU,zV,zW,zX,zY,zZ,uA,uB,uC,uD,uE,uF,uG,uH,uI,uJ,uK,uL,uM,uN,uO,uP,uQ,uR,uS,uT], defers := [] } w := by
 conv => arg 2; whnf
 refine st_intro (fun Q2 hQ2 => ?_)
 replace hQ2 := hid hQ2
 have lT := cell_lt t0
 dsimp only at lT
 obtain ⟨r1a, r1b⟩ := r1; obtain ⟨r2a, r2b⟩ := r2; obtain ⟨r3a, r3b⟩ := r3
 have w1 := Go.IntWalk.i64_in A (by omega); have w2 := Go.IntWalk.i64_in Q (by omega); have w3 := Go.IntWalk.i64_in M (by omega)
 go_quiet (fail)
 go_wp2_with fail
 rw [hQ2.out]
 refine ⟨rfl, _, _, _, _, _, _, _, _, _, _, _, _, _, _, _, _, _, _, _, _, _, _, _, _, _, _, _, _, _, rfl, exE⟩
def RetM (l : List Met) (w : World) (e : Ending) (w' : World) : Prop := ∃ a cap, e = .returned (.slice a l.length cap) ∧ Mts w' a l ∧ Ext w w'
set_option maxHeartbeats 4000000 in
theorem knownL_any (l : List Met) (v : VldM l) (p : List Int) (hp : ∀ i, 0 ≤ nth p i ∧ nth p i ≤ 65535) (hlp : p.length ≤ 9223372036854775807) (a : Option Addr) (cap : Nat) (ap : Option Addr) (cpp : Nat) (w : World) (hM : Mts w a l) (hP : Wrds w ap p) :
 Calls Try.prog 47 #[.slice a l.length cap, .slice ap p.length cpp] w (RetM (knL l p) w) := by
 have n1 := v.n1; have n6 := v.n6
 have hvl := hid (fun i => v.le i); have hvc := hid (fun i => v.co i)
 have hbd := hid (plN_bd hp)
 have hpn : Hid (∀ i, plN p i = if p.length = 0 then 0 else nth p (i % p.length)) := hid fun i => rfl
 have hend : Hid (∀ W r, OwnG W w.heap.size 68 5 r (fun i r => mtV (knM (mtl l i) (plN p i)) r) l.length → ∃ a' c', r = .slice a' l.length c' ∧ Mts W a' (knL l p)) := hid fun W r h => mts_own h (knL_len l p) fun i hi => knL_at p hi
 obtain ⟨b, off, rfl, hbl, hc1⟩ := hM.at (by omega)
 replace hc1 := hid hc1
 have hkl := hid (knL_len l p)
 obtain ⟨F, hF⟩ : ∃ F : Nat → Met, (fun i => knM (mtl l i) (plN p i)) = F := ⟨_, rfl⟩
 have hFi : Hid (∀ i, F i = knM (mtl l i) (plN p i)) := hid fun i => by rw [← hF]
 have hend : Hid (∀ W r, OwnG W w.heap.size 68 5 r (fun i r => mtV (F i) r) l.length → ∃ a' c', r = .slice a' l.length c' ∧ Mts W a' (knL l p)) := hid (by rw [← hF]; exact hend.out)
 clear hF hM
 obtain ⟨m, hm⟩ : ∃ m, p.length = m := ⟨_, rfl⟩
 rw [hm] at hpn hlp ⊢
 have hww : Hid (∀ i, i < m → ∃ b off, ap = some ⟨b, off, none⟩ ∧ w.cell? ⟨b, off + i, none⟩ = some (.int .u16 (nth p i))) := hid (by rw [← hm]; exact hP)
 replace hm := hid hm
 obtain ⟨n, hn⟩ : ∃ n, l.length = n := ⟨_, rfl⟩
 rw [hn] at hc1 hend hkl n1 n6 ⊢
 unfold RetM
 rw [hkl.out]
 replace hn := hid hn
 clear hP hp v
 go_enter Try.func47, Try.ntmps47
 go_wp2_with fail
 go_loopw [5, 6] (fun r i wr => ∃ j : Nat, j ≤ n ∧ i = .int .i64 j ∧ Hid (OwnG wr w.heap.size 68 5 r (fun i r => mtV (F i) r) j) ∧ Hid (Ext w wr)) (fun _ i _ => (n - intOf i).toNat)
 case atStart => exact ⟨0, by omega, rfl, hid (OwnG.nil _ _ _ _ _), hid (Ext.refl _)⟩
 case round =>
  obtain ⟨j, hj, rfl, ho, hx⟩ := hrel
  by_cases hjl : j < n
  ·have hjI : (j : Int) < (n : Int) := by omega
   have hv1 := hvl.out j; have hv2 := hvc.out j; have hb := hbd.out j
   have hk := hid (knM_in hv1 hv2 (plN p j))
   have hFj := hid (hFi.out j)
   have u2 := Go.IntWalk.i64_in ((j : Int) + 1) (by omega)
   have hsz := hx.out.size
   have hidx : Hid (m = 0 ∨ ∃ b2 o2 r : Nat, ap = some ⟨b2, o2, none⟩ ∧ ((j : Int)).tmod (m : Int) = (r : Int) ∧ r < m ∧ w.cell? ⟨b2, o2 + r, none⟩ = some (.int .u16 (plN p j))) := hid (by
    by_cases h0 : m = 0
    ·exact .inl h0
    ·obtain ⟨b2, o2, e, hcc⟩ := hww.out (j % m) (Nat.mod_lt j (by omega))
     refine .inr ⟨b2, o2, j % m, e, by rw [Int.tmod_eq_emod_of_nonneg (by omega)]; rfl, Nat.mod_lt j (by omega), ?_⟩
     rw [hpn.out j, if_neg h0]; exact hcc)
   have hpj := hid (hpn.out j)
   obtain ⟨x, hxe⟩ : ∃ x, plN p j = x := ⟨_, rfl⟩
   rw [hxe] at hb hk hFj hidx hpj
   obtain ⟨q0, q1, q2, q3, q4⟩ := (hc1.out j hjl).ext hx.out
   have hm9 := hid (show mtl l j = mtl l j from rfl)
   obtain ⟨M, hMj⟩ : ∃ M, mtl l j = M := ⟨_, rfl⟩
   rw [hMj] at q0 q1 q2 q3 q4 hk hFj hv1 hv2
   obtain ⟨pr, ll, lh, cl, ch⟩ := M
   dsimp only at q0 q1 q2 q3 q4 hv1 hv2
   have g1 := Int.emod_nonneg x (show lh - ll + 1 ≠ 0 by omega)
   have g2 := Int.emod_lt_of_pos x (show 0 < lh - ll + 1 by omega)
   have g3 := Int.emod_nonneg (x / 7) (show ch - cl + 1 ≠ 0 by omega)
   have g4 := Int.emod_lt_of_pos (x / 7) (show 0 < ch - cl + 1 by omega)
   have hFF : Hid (F j = ⟨pr, ll + x % (lh - ll + 1), ll + x % (lh - ll + 1), cl + x / 7 % (ch - cl + 1), cl + x / 7 % (ch - cl + 1)⟩) := hid hFj.out
   clear hk hFj hm9 hxe hMj
   obtain ⟨A, hA⟩ : ∃ z, x % (lh - ll + 1) = z := ⟨_, rfl⟩
   obtain ⟨Bm, hBm⟩ : ∃ z, x / 7 % (ch - cl + 1) = z := ⟨_, rfl⟩
   have hA2 : Hid (x.tmod (lh - ll + 1) = A) := hid (by rw [Int.tmod_eq_emod_of_nonneg (by omega)]; exact hA)
   have hQ2 : Hid (x.tdiv 7 = x / 7) := hid (Int.tdiv_eq_ediv_of_nonneg (by omega))
   have hB2 : Hid ((x / 7).tmod (ch - cl + 1) = Bm) := hid (by rw [Int.tmod_eq_emod_of_nonneg (by omega)]; exact hBm)
   have hQr := hid (show 0 ≤ x / 7 ∧ x / 7 ≤ 65535 by omega)
   rw [hA] at g1 g2 hFF
   rw [hBm] at g3 g4 hFF
   replace hb := hid hb; replace hv1 := hid hv1; replace hv2 := hid hv2
   have g12 := hid (And.intro g1 g2); have g34 := hid (And.intro g3 g4)
   clear hA hBm g1 g2 g3 g4
   rcases hidx.out with h0 | ⟨b2, o2, r, hap, htm, hr, hcc⟩
   ·subst h0
    have hx0 : x = 0 := by have := hpj.out; simpa using this
    have hmI : ¬ (0 : Int) < ((0 : Nat) : Int) := by omega
    clear hpj hidx
    subst hx0
    go_upto_region 9 with (fail)
    refine name_wp (fun v1 hv => ?_)
    have x1 : Ext wr v1 := by rw [hv]; exact exE
    have b7 := hid (show C5 v1 wr.heap.size pr ll lh cl ch from ⟨by rw [hv]; simp [go_sem], by rw [hv]; simp [go_sem], by rw [hv]; simp [go_sem], by rw [hv]; simp [go_sem], by rw [hv]; simp [go_sem]⟩)
    clear hv
    obtain ⟨B, hB⟩ : ∃ B, wr.heap.size = B := ⟨_, rfl⟩
    rw [hB] at b7 ⊢
    clear hB
    refine wp_mono (stK9 b7.out.1 b7.out.2.1 b7.out.2.2.1 b7.out.2.2.2.1 b7.out.2.2.2.2 (Go.IntWalk.i64_in (lh - ll) (by have := hv1.out; omega)) (Go.IntWalk.i64_in (lh - ll + 1) (by have := hv1.out; omega)) (by have := hv1.out; omega) hA2.out (by have := g12.out; have := hv1.out; omega) (Go.IntWalk.i64_in (ll + A) (by have := g12.out; have := hv1.out; omega)) hQ2.out hQr.out (Go.IntWalk.i64_in (ch - cl) (by have := hv2.out; omega)) (Go.IntWalk.i64_in (ch - cl + 1) (by have := hv2.out; omega)) (by have := hv2.out; omega) hB2.out (by have := g34.out; have := hv2.out; omega) (Go.IntWalk.i64_in (cl + Bm) (by have := g34.out; have := hv2.out; omega))) ?_
    rintro e a' v2 ⟨rfl, zG', zH', zI', zJ', zK', zL', zM', zN', zO', zP', zQ', zR', zS', zT', zU', zV', zW', zX', zY', zZ', uA', uB', uC', uD', uE', uF', uG', uH', uI', rfl, x2⟩
    have x12 := x1.trans x2
    have hx2 := hid (hx.out.trans x12)
    have ho2 := hid (ho.out.ext x12)
    replace b7 := hid (b7.out.ext x2)
    clear x1 x2 x12 q0 q1 q2 q3 q4 hx ho hsz
    obtain ⟨o0, o1, o2_, o3, o4⟩ := b7.out
    have lo := cell_lt o0
    dsimp only at lo
    have hsz := hx2.out.size
    go_wp2_with fail
    refine (metalL_any _ _ _ _ _ _).mono ?_; rintro e v3 ⟨rfl, hE⟩
    have x3 : Ext v2 v3 := exE
    have hx3 := hid (hx2.out.trans x3)
    have ho3 := hid (ho2.out.ext x3)
    clear hE hx2 ho2 o0 o1 o2_ o3 o4 lo hsz b7
    have hsz := hx3.out.size
    go_wp2_with (at_builtin; refine wpList_plain rfl (fun K hK => ?_); refine appG_wp _ _ _ rfl 68 5 40 Try.underlying22 elemMt (by decide) w.heap.size (fun i r => mtV (F i) r) j _ rfl _ 0 1 1 (fun _ r => mtV (F j) r) rfl (ho3.out.ext exE) (by rw [hFF.out]; exact el5 (by simp [go_sem]) (by simp [go_sem]) (by simp [go_sem]) (by simp [go_sem]) (by simp [go_sem])) (by decide) (fun _ _ _ _ => rfl) (by omega) (by decide) (by simp; omega) (fun i r => mtV (F i) r) (fun _ _ _ _ => rfl) (fun i r hi _ => by rw [show i = 0 by omega]; rfl) ?_; intro b8 cp8 w8 own8 g8 at8 hb8 ext8; refine hK _ _ ?_)
    go_roundw
    case rel => exact ⟨j + 1, by omega, by go_num, hid own8, hid (ext8 _ (by have := hx3.out; exact exE) (Nat.le_refl _))⟩
    case measure => simp [intOf]; omega
   ·have hmI : (0 : Int) < (m : Int) := by omega
    have e0 : ((m : Int) == 0) = false := by rw [beq_eq_false_iff_ne]; omega
    have e3 : (m : Int) ≠ 0 := by omega
    have e4 : ¬ (m : Int) = 0 := by omega
    have hrI : (r : Int) < (m : Int) := by omega
    subst hap
    replace hcc := hx.out.cell hcc
    have lcc := cell_lt hcc
    have hbx := hb.out
    clear hpj hidx
    go_upto_region 9 with (fail)
    refine name_wp (fun v1 hv => ?_)
    have x1 : Ext wr v1 := by rw [hv]; exact exE
    have b7 := hid (show C5 v1 wr.heap.size pr ll lh cl ch from ⟨by rw [hv]; simp [go_sem], by rw [hv]; simp [go_sem], by rw [hv]; simp [go_sem], by rw [hv]; simp [go_sem], by rw [hv]; simp [go_sem]⟩)
    clear hv
    obtain ⟨B, hB⟩ : ∃ B, wr.heap.size = B := ⟨_, rfl⟩
    rw [hB] at b7 ⊢
    clear hB
    refine wp_mono (stK9 b7.out.1 b7.out.2.1 b7.out.2.2.1 b7.out.2.2.2.1 b7.out.2.2.2.2 (Go.IntWalk.i64_in (lh - ll) (by have := hv1.out; omega)) (Go.IntWalk.i64_in (lh - ll + 1) (by have := hv1.out; omega)) (by have := hv1.out; omega) hA2.out (by have := g12.out; have := hv1.out; omega) (Go.IntWalk.i64_in (ll + A) (by have := g12.out; have := hv1.out; omega)) hQ2.out hQr.out (Go.IntWalk.i64_in (ch - cl) (by have := hv2.out; omega)) (Go.IntWalk.i64_in (ch - cl + 1) (by have := hv2.out; omega)) (by have := hv2.out; omega) hB2.out (by have := g34.out; have := hv2.out; omega) (Go.IntWalk.i64_in (cl + Bm) (by have := g34.out; have := hv2.out; omega))) ?_
    rintro e a' v2 ⟨rfl, zG', zH', zI', zJ', zK', zL', zM', zN', zO', zP', zQ', zR', zS', zT', zU', zV', zW', zX', zY', zZ', uA', uB', uC', uD', uE', uF', uG', uH', uI', rfl, x2⟩
    have x12 := x1.trans x2
    have hx2 := hid (hx.out.trans x12)
    have ho2 := hid (ho.out.ext x12)
    replace b7 := hid (b7.out.ext x2)
    clear hcc lcc x1 x2 x12 q0 q1 q2 q3 q4 hx ho hsz
    obtain ⟨o0, o1, o2_, o3, o4⟩ := b7.out
    have lo := cell_lt o0
    dsimp only at lo
    have hsz := hx2.out.size
    go_wp2_with fail
    refine (metalL_any _ _ _ _ _ _).mono ?_; rintro e v3 ⟨rfl, hE⟩
    have x3 : Ext v2 v3 := exE
    have hx3 := hid (hx2.out.trans x3)
    have ho3 := hid (ho2.out.ext x3)
    clear hE hx2 ho2 o0 o1 o2_ o3 o4 lo hsz b7
    have hsz := hx3.out.size
    go_wp2_with (at_builtin; refine wpList_plain rfl (fun K hK => ?_); refine appG_wp _ _ _ rfl 68 5 40 Try.underlying22 elemMt (by decide) w.heap.size (fun i r => mtV (F i) r) j _ rfl _ 0 1 1 (fun _ r => mtV (F j) r) rfl (ho3.out.ext exE) (by rw [hFF.out]; exact el5 (by simp [go_sem]) (by simp [go_sem]) (by simp [go_sem]) (by simp [go_sem]) (by simp [go_sem])) (by decide) (fun _ _ _ _ => rfl) (by omega) (by decide) (by simp; omega) (fun i r => mtV (F i) r) (fun _ _ _ _ => rfl) (fun i r hi _ => by rw [show i = 0 by omega]; rfl) ?_; intro b8 cp8 w8 own8 g8 at8 hb8 ext8; refine hK _ _ ?_)
    go_roundw
    case rel => exact ⟨j + 1, by omega, by go_num, hid own8, hid (ext8 _ (by have := hx3.out; exact exE) (Nat.le_refl _))⟩
    case measure => simp [intOf]; omega
  ·have hjn : j = n := by omega
   subst hjn
   obtain ⟨a', c', e1, hMt⟩ := hend.out _ _ ho.out
   subst e1
   have hnn : ¬ (j : Int) < (j : Int) := by omega
   go_wp2_with fail
   go_ret
   have hfx := hx.out
   first | exact ⟨a', ⟨c', rfl⟩, hMt, hfx⟩ | exact ⟨a', ⟨c', rfl⟩, hMt.ext exE, exE⟩
set_option maxHeartbeats 40000000 in
theorem stS3 {yA yB yC yD yG yH yJ yK yL yM yN yO yP yQ yR yS yT yU yV yW yX yY yZ zA zB zC zD zE zF zG zH zI zJ zK zL zM zN zO zP zQ zR zS zT zU zV zW zX zY zZ uA uB uC uD uE uF uG uH uI uJ uK uL uM uN uO uP uQ uR uS uT uU uV uW uX uY uZ iA iB iC iD iE iF iG iH iI iJ iK iL iM iN iO iP iQ iR iS iT iU iV iW iX iY iZ oA oB oC oD oE oF oG oH oI oJ oK oL oM oN oO oP oQ oR oS oT oU oV oW oX oY oZ qA qB qC qD qE qF qG qH qI qJ qK qL qM qN qO qP qQ qR qS qT qU qV qW qX qY qZ rA rB rC rD rE rF rG rH rI rJ rK rL rM rN rO rP rQ rR rS rT rU rV rW rX rY rZ jA jB jC jD jE jF jG jH jI jJ jK jL jM jN jO jP jQ jR jS : Value} {T : Nat} {u c kl kc u2 c2 : Int} {w : World} (t0 : w.cell? ⟨T, 0, none⟩ = some (.int .i64 u)) (t1 : w.cell? ⟨T, 1, none⟩ = some (.int .i64 c)) (ru : 0 ≤ u ∧ u ≤ 1000) (rc : 0 ≤ c ∧ c ≤ 1000) (rk : 0 ≤ kl ∧ kl ≤ 65535) (rj : 0 ≤ kc ∧ kc ≤ 65535) (hu : (1000 < u + kl ∧ u2 = 1000) ∨ (u + kl < 1000 ∧ u2 = u + kl) ∨ (u + kl = 1000 ∧ u2 = 1000)) (hc : (c - kc < 0 ∧ c2 = 0) ∨ (0 < c - kc ∧ c2 = c - kc) ∨ (c - kc = 0 ∧ c2 = 0)) :
 Code.wp Try.prog (rgn Try.f10 3) (fun e a' w' => e = .normal ∧ ∃ (B15 : Nat) (zP' zQ' zR' zS' zT' zU' zV' zW' zX' zY' zZ' uA' uB' : Value), a' = { tmps := #[yA,yB,yC,yD,.int .u16 kl,.int .u16 kc,yG,yH,.pointer (some ⟨T, 0, none⟩),yJ,yK,yL,yM,yN,yO,.pointer (some ⟨B15, 0, none⟩),yQ,yR,yS,yT,yU,yV,yW,yX,yY,yZ,zA,zB,zC,zD,zE,zF,zG,zH,zI,zJ,zK,zL,zM,zN,zO,zP',zQ',zR',zS',zT',zU',zV',zW',zX',zY',zZ',uA',uB',uC,uD,uE,uF,uG,uH,uI,uJ,uK,uL,uM,uN,uO,uP,uQ,uR,uS,uT,uU,uV,uW,uX,uY,uZ,iA,iB,iC,iD,iE,iF,iG,iH,iI,iJ,iK,iL,iM,iN,iO,iP,iQ,iR,iS,iT,iU,iV,iW,iX,iY,iZ,oA,oB,oC,oD,oE,oF,oG,oH,oI,oJ,oK,oL,oM,oN,oO,oP,oQ,oR,oS,oT,oU,oV,oW,oX,oY,oZ,qA,qB,qC,qD,qE,qF,qG,qH,qI,qJ,qK,qL,qM,qN,qO,qP,qQ,qR,qS,qT,qU,qV,qW,qX,qY,qZ,rA,rB,rC,rD,rE,rF,rG,rH,rI,rJ,rK,rL,rM,rN,rO,rP,rQ,rR,rS,rT,rU,rV,rW,rX,rY,rZ,jA,jB,jC,jD,jE,jF,jG,jH,jI,jJ,jK,jL,jM,jN,jO,jP,jQ,jR,jS], defers := [] } ∧ Ext w w' ∧ C2 w' B15 u2 c2) { tmps := #[yA,yB,yC,yD,.int .u16 kl,.int .u16 kc,yG,yH,.pointer (some ⟨T, 0, none⟩),yJ,yK,yL,yM,yN,yO,yP,yQ,yR,yS,yT,yU,yV,yW,yX,yY,yZ,zA,zB,zC,zD,zE,zF,zG,zH,zI,zJ,zK,zL,zM,zN,zO,zP,zQ,zR,zS,zT,zU,zV,zW,zX,zY,zZ,uA,uB,uC,uD,uE,uF,uG,uH,uI,uJ,uK,uL,uM,uN,uO,uP,uQ,uR,uS,uT,uU,uV,uW,uX,uY,uZ,iA,iB,iC,iD,iE,iF,iG,iH,iI,iJ,iK,iL,iM,iN,iO,iP,iQ,iR,iS,iT,iU,iV,iW,iX,iY,iZ,oA,oB,oC,oD,oE,oF,oG,oH,oI,oJ,oK,oL,oM,oN,oO,oP,oQ,oR,oS,oT,oU,oV,oW,oX,oY,oZ,qA,qB,qC,qD,qE,qF,qG,qH,qI,qJ,qK,qL,qM,qN,qO,qP,qQ,qR,qS,qT,qU,qV,qW,qX,qY,qZ,rA,rB,rC,rD,rE,rF,rG,rH,rI,rJ,rK,rL,rM,rN,rO,rP,rQ,rR,rS,rT,rU,rV,rW,rX,rY,rZ,jA,jB,jC,jD,jE,jF,jG,jH,jI,jJ,jK,jL,jM,jN,jO,jP,jQ,jR,jS], defers := [] } w := by
 conv => arg 2; whnf
 refine st_intro (fun Q2 hQ2 => ?_)
 replace hQ2 := hid hQ2
 have lT := cell_lt t0
 dsimp only at lT
 obtain ⟨ru0, ru1⟩ := ru; obtain ⟨rc0, rc1⟩ := rc; obtain ⟨rk0, rk1⟩ := rk; obtain ⟨rj0, rj1⟩ := rj
 have w1 := Go.IntWalk.i64_in kl (by omega); have w2 := Go.IntWalk.i64_in kc (by omega)
 have w3 := Go.IntWalk.i64_in (u + kl) (by omega); have w4 := Go.IntWalk.i64_in (c - kc) (by omega)
 obtain ⟨A, hA⟩ : ∃ z, u + kl = z := ⟨_, rfl⟩
 obtain ⟨B, hB⟩ : ∃ z, c - kc = z := ⟨_, rfl⟩
 rw [hA] at w3 hu; rw [hB] at w4 hc
 skip
 rcases hu with ⟨h1, rfl⟩ | ⟨h1, rfl⟩ | ⟨h1, rfl⟩ <;> rcases hc with ⟨h2, rfl⟩ | ⟨h2, rfl⟩ | ⟨h2, rfl⟩
 ·skip
  have g1 : ¬ A < 1000 := by omega
  have g2 : ¬ 0 < B := by omega
  go_wp2_with fail
  rw [hQ2.out]
  exact ⟨rfl, _, _, _, _, _, _, _, _, _, _, _, _, _, _, rfl, exE, ⟨by simp [go_sem], by simp [go_sem]⟩⟩
 ·skip
  have g1 : ¬ A < 1000 := by omega
  have g2 : ¬ c2 < 0 := by omega
  go_wp2_with fail
  rw [hQ2.out]
  exact ⟨rfl, _, _, _, _, _, _, _, _, _, _, _, _, _, _, rfl, exE, ⟨by simp [go_sem], by simp [go_sem]⟩⟩
 ·skip
  have g1 : ¬ A < 1000 := by omega
  subst h2
  go_wp2_with fail
  rw [hQ2.out]
  exact ⟨rfl, _, _, _, _, _, _, _, _, _, _, _, _, _, _, rfl, exE, ⟨by simp [go_sem], by simp [go_sem]⟩⟩
 ·skip
  have g1 : ¬ 1000 < u2 := by omega
  have g2 : ¬ 0 < B := by omega
  go_wp2_with fail
  rw [hQ2.out]
  exact ⟨rfl, _, _, _, _, _, _, _, _, _, _, _, _, _, _, rfl, exE, ⟨by simp [go_sem], by simp [go_sem]⟩⟩
 ·skip
  have g1 : ¬ 1000 < u2 := by omega
  have g2 : ¬ c2 < 0 := by omega
  go_wp2_with fail
  rw [hQ2.out]
  exact ⟨rfl, _, _, _, _, _, _, _, _, _, _, _, _, _, _, rfl, exE, ⟨by simp [go_sem], by simp [go_sem]⟩⟩
 ·skip
  have g1 : ¬ 1000 < u2 := by omega
  subst h2
  go_wp2_with fail
  rw [hQ2.out]
  exact ⟨rfl, _, _, _, _, _, _, _, _, _, _, _, _, _, _, rfl, exE, ⟨by simp [go_sem], by simp [go_sem]⟩⟩
 ·skip
  subst h1
  have g2 : ¬ 0 < B := by omega
  go_wp2_with fail
  rw [hQ2.out]
  exact ⟨rfl, _, _, _, _, _, _, _, _, _, _, _, _, _, _, rfl, exE, ⟨by simp [go_sem], by simp [go_sem]⟩⟩
 ·skip
  subst h1
  have g2 : ¬ c2 < 0 := by omega
  go_wp2_with fail
  rw [hQ2.out]
  exact ⟨rfl, _, _, _, _, _, _, _, _, _, _, _, _, _, _, rfl, exE, ⟨by simp [go_sem], by simp [go_sem]⟩⟩
 ·skip
  subst h1
  subst h2
  go_wp2_with fail
  rw [hQ2.out]
  exact ⟨rfl, _, _, _, _, _, _, _, _, _, _, _, _, _, _, rfl, exE, ⟨by simp [go_sem], by simp [go_sem]⟩⟩
set_option maxHeartbeats 40000000 in
theorem stS8 {yB yD yE yF yG yH yJ yK yL yM yN yO yR yY yZ zA zB zC zD zE zF zG zH zI zJ zK zL zM zN zO zP zQ zR zS zT zU zV zW zX zY zZ uA uB uC uD uE uF uG uH uI uJ uK uL uM uN uO uP uQ uR uS uT uU uV uW uX uY uZ iA iB iC iD iE iF iG iH iI iJ iK iL iM iN iO iP iQ iR iS iT iU iV iW iX iY iZ oA oB oC oD oE oF oG oH oI oJ oK oL oM oN oO oP oQ oR oS oT oU oV oW oX oY oZ qA qB qC qD qE qF qG qH qI qJ qK qL qM qN qO qP qQ qR qS qT qU qV qW qX qY qZ rA rB rC rD rE rF rG rH rI rJ rK rL rM rN rO rP rQ rR rS rT rU rV rW rX rY rZ jA jB jC jD jE jF jG jH jI jJ jK jL jM jN jO jP jQ jR jS : Value} {a a1 : Option Addr} {n cap k1 T X B1 B2 : Nat} {u c u2 c2 N1 D1 N2 D2 E1 E2 : Int} {s b1 b2 : Bool} {w : World} (hd1 : ∀ W, Ext w W → Calls Try.prog 27 #[.slice a n cap, .agg #[.int .i64 u, .int .i64 c], .bool s, .slice a1 n k1] W fun e w' => e = .returned (.int .i64 E1) ∧ Ext W w') (hd2 : ∀ W, Ext w W → Calls Try.prog 27 #[.slice a n cap, .agg #[.int .i64 u2, .int .i64 c2], .bool s, .slice a1 n k1] W fun e w' => e = .returned (.int .i64 E2) ∧ Ext W w') (hc : (b1 = true ∧ b2 = true ∧ (∀ W, Calls Try.prog 46 #[.agg #[.int .i64 N1, .int .i64 D1], .agg #[.int .i64 N2, .int .i64 D2]] W fun e w' => e = .returned (.bool false) ∧ Ext W w')) ∨ b1 = false) (he : (E1 = 0 ∧ E2 = 0) ∨ E1 = 17) (t0 : w.cell? ⟨T, 0, none⟩ = some (.int .i64 u)) (t1 : w.cell? ⟨T, 1, none⟩ = some (.int .i64 c)) (x0 : w.cell? ⟨X, 0, none⟩ = some (.int .i64 u2)) (x1_ : w.cell? ⟨X, 1, none⟩ = some (.int .i64 c2)) (c10 : w.cell? ⟨B1, 0, none⟩ = some (.int .i64 N1)) (c11 : w.cell? ⟨B1, 1, none⟩ = some (.int .i64 D1)) (c20 : w.cell? ⟨B2, 0, none⟩ = some (.int .i64 N2)) (c21 : w.cell? ⟨B2, 1, none⟩ = some (.int .i64 D2)) :
 Code.wp Try.prog (rgn Try.f10 8) (fun e a' w' => e = .normal ∧ ∃ (iB' iC' iD' iE' iF' iG' iH' iI' iJ' iK' iL' iM' iN' iO' iP' iQ' iR' iS' iT' iU' iV' iW' iX' iY' iZ' oA' oB' oC' oD' oE' oF' oG' oH' : Value), a' = { tmps := #[.slice a n cap,yB,.bool s,yD,yE,yF,yG,yH,.pointer (some ⟨T, 0, none⟩),yJ,yK,yL,yM,yN,yO,.pointer (some ⟨X, 0, none⟩),.slice a1 n k1,yR,.pointer (some ⟨B1, 0, none⟩),.bool b1,.bool true,.pointer (some ⟨B2, 0, none⟩),.bool b2,.bool true,yY,yZ,zA,zB,zC,zD,zE,zF,zG,zH,zI,zJ,zK,zL,zM,zN,zO,zP,zQ,zR,zS,zT,zU,zV,zW,zX,zY,zZ,uA,uB,uC,uD,uE,uF,uG,uH,uI,uJ,uK,uL,uM,uN,uO,uP,uQ,uR,uS,uT,uU,uV,uW,uX,uY,uZ,iA,iB',iC',iD',iE',iF',iG',iH',iI',iJ',iK',iL',iM',iN',iO',iP',iQ',iR',iS',iT',iU',iV',iW',iX',iY',iZ',oA',oB',oC',oD',oE',oF',oG',oH',.bool false,oJ,oK,oL,oM,oN,oO,oP,oQ,oR,oS,oT,oU,oV,oW,oX,oY,oZ,qA,qB,qC,qD,qE,qF,qG,qH,qI,qJ,qK,qL,qM,qN,qO,qP,qQ,qR,qS,qT,qU,qV,qW,qX,qY,qZ,rA,rB,rC,rD,rE,rF,rG,rH,rI,rJ,rK,rL,rM,rN,rO,rP,rQ,rR,rS,rT,rU,rV,rW,rX,rY,rZ,jA,jB,jC,jD,jE,jF,jG,jH,jI,jJ,jK,jL,jM,jN,jO,jP,jQ,jR,jS], defers := [] } ∧ Ext w w') { tmps := #[.slice a n cap,yB,.bool s,yD,yE,yF,yG,yH,.pointer (some ⟨T, 0, none⟩),yJ,yK,yL,yM,yN,yO,.pointer (some ⟨X, 0, none⟩),.slice a1 n k1,yR,.pointer (some ⟨B1, 0, none⟩),.bool b1,.bool true,.pointer (some ⟨B2, 0, none⟩),.bool b2,.bool true,yY,yZ,zA,zB,zC,zD,zE,zF,zG,zH,zI,zJ,zK,zL,zM,zN,zO,zP,zQ,zR,zS,zT,zU,zV,zW,zX,zY,zZ,uA,uB,uC,uD,uE,uF,uG,uH,uI,uJ,uK,uL,uM,uN,uO,uP,uQ,uR,uS,uT,uU,uV,uW,uX,uY,uZ,iA,iB,iC,iD,iE,iF,iG,iH,iI,iJ,iK,iL,iM,iN,iO,iP,iQ,iR,iS,iT,iU,iV,iW,iX,iY,iZ,oA,oB,oC,oD,oE,oF,oG,oH,oI,oJ,oK,oL,oM,oN,oO,oP,oQ,oR,oS,oT,oU,oV,oW,oX,oY,oZ,qA,qB,qC,qD,qE,qF,qG,qH,qI,qJ,qK,qL,qM,qN,qO,qP,qQ,qR,qS,qT,qU,qV,qW,qX,qY,qZ,rA,rB,rC,rD,rE,rF,rG,rH,rI,rJ,rK,rL,rM,rN,rO,rP,rQ,rR,rS,rT,rU,rV,rW,rX,rY,rZ,jA,jB,jC,jD,jE,jF,jG,jH,jI,jJ,jK,jL,jM,jN,jO,jP,jQ,jR,jS], defers := [] } w := by
 conv => arg 2; whnf
 refine st_intro (fun Q2 hQ2 => ?_)
 replace hQ2 := hid hQ2
 have lT := cell_lt t0; have lX := cell_lt x0; have lB1 := cell_lt c10; have lB2 := cell_lt c20
 dsimp only at lT lX lB1 lB2
 rcases hc with ⟨rfl, rfl, h⟩ | rfl <;> rcases he with ⟨rfl, rfl⟩ | rfl
 ·skip
  replace hd1 := hid hd1; replace hd2 := hid hd2
  replace h := hid h
  go_wp2_with fail
  refine (h.out _).mono ?_; rintro e u1 ⟨rfl, hE⟩
  have xa : Ext w u1 := exE
  clear hE
  replace t0 := xa.cell t0
  replace t1 := xa.cell t1
  replace x0 := xa.cell x0
  replace x1_ := xa.cell x1_
  replace c10 := xa.cell c10
  replace c11 := xa.cell c11
  replace c20 := xa.cell c20
  replace c21 := xa.cell c21
  have lt0xa := cell_lt t0; dsimp only at lt0xa
  have lx0xa := cell_lt x0; dsimp only at lx0xa
  have lc10xa := cell_lt c10; dsimp only at lc10xa
  have lc20xa := cell_lt c20; dsimp only at lc20xa
  go_wp2_with fail
  refine (hd1.out _ (xa.trans exE)).mono ?_; rintro e u2_ ⟨rfl, hE⟩
  have xb : Ext u1 u2_ := exE
  clear hE
  replace t0 := xb.cell t0
  replace t1 := xb.cell t1
  replace x0 := xb.cell x0
  replace x1_ := xb.cell x1_
  replace c10 := xb.cell c10
  replace c11 := xb.cell c11
  replace c20 := xb.cell c20
  replace c21 := xb.cell c21
  have lt0xb := cell_lt t0; dsimp only at lt0xb
  have lx0xb := cell_lt x0; dsimp only at lx0xb
  have lc10xb := cell_lt c10; dsimp only at lc10xb
  have lc20xb := cell_lt c20; dsimp only at lc20xb
  have X := xa.trans xb
  go_wp2_with fail
  refine (hd2.out _ (X.trans exE)).mono ?_; rintro e u3 ⟨rfl, hE⟩
  have xc : Ext w u3 := X.trans exE
  clear hE
  go_wp2_with fail
  rw [hQ2.out]
  exact ⟨rfl, _, _, _, _, _, _, _, _, _, _, _, _, _, _, _, _, _, _, _, _, _, _, _, _, _, _, _, _, _, _, _, _, _, rfl, exE⟩
 ·skip
  replace hd1 := hid hd1; replace hd2 := hid hd2
  replace h := hid h
  go_wp2_with fail
  refine (h.out _).mono ?_; rintro e u1 ⟨rfl, hE⟩
  have xa : Ext w u1 := exE
  clear hE
  replace t0 := xa.cell t0
  replace t1 := xa.cell t1
  replace x0 := xa.cell x0
  replace x1_ := xa.cell x1_
  replace c10 := xa.cell c10
  replace c11 := xa.cell c11
  replace c20 := xa.cell c20
  replace c21 := xa.cell c21
  have lt0xa := cell_lt t0; dsimp only at lt0xa
  have lx0xa := cell_lt x0; dsimp only at lx0xa
  have lc10xa := cell_lt c10; dsimp only at lc10xa
  have lc20xa := cell_lt c20; dsimp only at lc20xa
  go_wp2_with fail
  refine (hd1.out _ (xa.trans exE)).mono ?_; rintro e u2_ ⟨rfl, hE⟩
  have xb : Ext u1 u2_ := exE
  clear hE
  replace t0 := xb.cell t0
  replace t1 := xb.cell t1
  replace x0 := xb.cell x0
  replace x1_ := xb.cell x1_
  replace c10 := xb.cell c10
  replace c11 := xb.cell c11
  replace c20 := xb.cell c20
  replace c21 := xb.cell c21
  have lt0xb := cell_lt t0; dsimp only at lt0xb
  have lx0xb := cell_lt x0; dsimp only at lx0xb
  have lc10xb := cell_lt c10; dsimp only at lc10xb
  have lc20xb := cell_lt c20; dsimp only at lc20xb
  have X := xa.trans xb
  go_wp2_with fail
  rw [hQ2.out]
  exact ⟨rfl, _, _, _, _, _, _, _, _, _, _, _, _, _, _, _, _, _, _, _, _, _, _, _, _, _, _, _, _, _, _, _, _, _, rfl, exE⟩
 ·skip
  replace hd1 := hid hd1; replace hd2 := hid hd2
  go_wp2_with fail
  refine (hd1.out _ exE).mono ?_; rintro e u2_ ⟨rfl, hE⟩
  have xb : Ext w u2_ := exE
  clear hE
  replace t0 := xb.cell t0
  replace t1 := xb.cell t1
  replace x0 := xb.cell x0
  replace x1_ := xb.cell x1_
  replace c10 := xb.cell c10
  replace c11 := xb.cell c11
  replace c20 := xb.cell c20
  replace c21 := xb.cell c21
  have lt0xb := cell_lt t0; dsimp only at lt0xb
  have lx0xb := cell_lt x0; dsimp only at lx0xb
  have lc10xb := cell_lt c10; dsimp only at lc10xb
  have lc20xb := cell_lt c20; dsimp only at lc20xb
  have X := xb
  go_wp2_with fail
  refine (hd2.out _ (X.trans exE)).mono ?_; rintro e u3 ⟨rfl, hE⟩
  have xc : Ext w u3 := X.trans exE
  clear hE
  go_wp2_with fail
  rw [hQ2.out]
  exact ⟨rfl, _, _, _, _, _, _, _, _, _, _, _, _, _, _, _, _, _, _, _, _, _, _, _, _, _, _, _, _, _, _, _, _, _, rfl, exE⟩
 ·skip
  replace hd1 := hid hd1; replace hd2 := hid hd2
  go_wp2_with fail
  refine (hd1.out _ exE).mono ?_; rintro e u2_ ⟨rfl, hE⟩
  have xb : Ext w u2_ := exE
  clear hE
  replace t0 := xb.cell t0
  replace t1 := xb.cell t1
  replace x0 := xb.cell x0
  replace x1_ := xb.cell x1_
  replace c10 := xb.cell c10
  replace c11 := xb.cell c11
  replace c20 := xb.cell c20
  replace c21 := xb.cell c21
  have lt0xb := cell_lt t0; dsimp only at lt0xb
  have lx0xb := cell_lt x0; dsimp only at lx0xb
  have lc10xb := cell_lt c10; dsimp only at lc10xb
  have lc20xb := cell_lt c20; dsimp only at lc20xb
  have X := xb
  go_wp2_with fail
  rw [hQ2.out]
  exact ⟨rfl, _, _, _, _, _, _, _, _, _, _, _, _, _, _, _, _, _, _, _, _, _, _, _, _, _, _, _, _, _, _, _, _, _, rfl, exE⟩
set_option maxHeartbeats 40000000 in
theorem stS13 {yA yB yC yD yE yF yG yH yI yJ yK yL yM yN yO yP yQ yR yS yT yU yV yW yX zE zF zG zH zI zJ zK zL zM zN zO zP zQ zR zS zT zU zV zW zX zY zZ uA uB uC uD uE uF uG uH uI uJ uK uL uM uN uO uP uQ uR uS uT uU uV uW uX uY uZ iA iB iC iD iE iF iG iH iI iJ iK iL iM iN iO iP iQ iR iS iT iU iV iW iX iY iZ oA oB oC oD oE oF oG oH oI oJ oK oL oM oN oO oP oQ oR oS oT oU oV oW oX oY oZ qA qB qC qD qE qF qG qH qI qJ qK qL qM qN qO qP qQ qR qS qT qU qV qW qX qY qZ rA rB rC rD rE rF rG rH rI rJ rK rL rM rN rO rP rQ rR rS rT rU rV rW rX rY rZ jA jB jC jD jE jF jG jH jI jJ jK jL jM jN jO jP jQ jR jS : Value} {B24 B25 B27 B28 : Nat} {A0 A1 A2 A3 C0 C1 C2_ C3 : Int} {w : World} (s24 : ∀ W, Calls Try.prog 45 #[.agg #[.int .i64 A0, .int .i64 A1]] W fun e w' => e = .returned (.bool true) ∧ Ext W w') (s25 : ∀ W, Calls Try.prog 45 #[.agg #[.int .i64 A2, .int .i64 A3]] W fun e w' => e = .returned (.bool true) ∧ Ext W w') (s27 : ∀ W, Calls Try.prog 45 #[.agg #[.int .i64 C0, .int .i64 C1]] W fun e w' => e = .returned (.bool true) ∧ Ext W w') (s28 : ∀ W, Calls Try.prog 45 #[.agg #[.int .i64 C2_, .int .i64 C3]] W fun e w' => e = .returned (.bool true) ∧ Ext W w') (l1 : ∀ W, Calls Try.prog 46 #[.agg #[.int .i64 A0, .int .i64 A1], .agg #[.int .i64 C0, .int .i64 C1]] W fun e w' => e = .returned (.bool false) ∧ Ext W w') (l2 : ∀ W, Calls Try.prog 46 #[.agg #[.int .i64 C2_, .int .i64 C3], .agg #[.int .i64 A2, .int .i64 A3]] W fun e w' => e = .returned (.bool false) ∧ Ext W w') (l3 : ∀ W, Calls Try.prog 46 #[.agg #[.int .i64 A2, .int .i64 A3], .agg #[.int .i64 A0, .int .i64 A1]] W fun e w' => e = .returned (.bool false) ∧ Ext W w') (c240 : w.cell? ⟨B24, 0, none⟩ = some (.int .i64 A0)) (c241 : w.cell? ⟨B24, 1, none⟩ = some (.int .i64 A1)) (c250 : w.cell? ⟨B25, 0, none⟩ = some (.int .i64 A2)) (c251 : w.cell? ⟨B25, 1, none⟩ = some (.int .i64 A3)) (c270 : w.cell? ⟨B27, 0, none⟩ = some (.int .i64 C0)) (c271 : w.cell? ⟨B27, 1, none⟩ = some (.int .i64 C1)) (c280 : w.cell? ⟨B28, 0, none⟩ = some (.int .i64 C2_)) (c281 : w.cell? ⟨B28, 1, none⟩ = some (.int .i64 C3)) :
 Code.wp Try.prog (rgn Try.f10 13) (fun e a' w' => e = .normal ∧ ∃ (qC' qD' qE' qF' qG' qH' qI' qJ' qK' qL' qM' qN' qO' qP' qQ' qR' qS' qT' qU' qV' qW' qX' qY' qZ' rA' rB' rC' rD' rE' rF' rG' rH' rI' rJ' rK' rL' rM' rN' rO' rP' : Value), a' = { tmps := #[yA,yB,yC,yD,yE,yF,yG,yH,yI,yJ,yK,yL,yM,yN,yO,yP,yQ,yR,yS,yT,yU,yV,yW,yX,.pointer (some ⟨B24, 0, none⟩),.pointer (some ⟨B25, 0, none⟩),.int .i64 0,.pointer (some ⟨B27, 0, none⟩),.pointer (some ⟨B28, 0, none⟩),.int .i64 0,zE,zF,zG,zH,zI,zJ,zK,zL,zM,zN,zO,zP,zQ,zR,zS,zT,zU,zV,zW,zX,zY,zZ,uA,uB,uC,uD,uE,uF,uG,uH,uI,uJ,uK,uL,uM,uN,uO,uP,uQ,uR,uS,uT,uU,uV,uW,uX,uY,uZ,iA,iB,iC,iD,iE,iF,iG,iH,iI,iJ,iK,iL,iM,iN,iO,iP,iQ,iR,iS,iT,iU,iV,iW,iX,iY,iZ,oA,oB,oC,oD,oE,oF,oG,oH,oI,oJ,oK,oL,oM,oN,oO,oP,oQ,oR,oS,oT,oU,oV,oW,oX,oY,oZ,qA,qB,qC',qD',qE',qF',qG',qH',qI',qJ',qK',qL',qM',qN',qO',qP',qQ',qR',qS',qT',qU',qV',qW',qX',qY',qZ',rA',rB',rC',rD',rE',rF',rG',rH',rI',rJ',rK',rL',rM',rN',rO',rP',.bool false,rR,rS,rT,rU,rV,rW,rX,rY,rZ,jA,jB,jC,jD,jE,jF,jG,jH,jI,jJ,jK,jL,jM,jN,jO,jP,jQ,jR,jS], defers := [] } ∧ Ext w w') { tmps := #[yA,yB,yC,yD,yE,yF,yG,yH,yI,yJ,yK,yL,yM,yN,yO,yP,yQ,yR,yS,yT,yU,yV,yW,yX,.pointer (some ⟨B24, 0, none⟩),.pointer (some ⟨B25, 0, none⟩),.int .i64 0,.pointer (some ⟨B27, 0, none⟩),.pointer (some ⟨B28, 0, none⟩),.int .i64 0,zE,zF,zG,zH,zI,zJ,zK,zL,zM,zN,zO,zP,zQ,zR,zS,zT,zU,zV,zW,zX,zY,zZ,uA,uB,uC,uD,uE,uF,uG,uH,uI,uJ,uK,uL,uM,uN,uO,uP,uQ,uR,uS,uT,uU,uV,uW,uX,uY,uZ,iA,iB,iC,iD,iE,iF,iG,iH,iI,iJ,iK,iL,iM,iN,iO,iP,iQ,iR,iS,iT,iU,iV,iW,iX,iY,iZ,oA,oB,oC,oD,oE,oF,oG,oH,oI,oJ,oK,oL,oM,oN,oO,oP,oQ,oR,oS,oT,oU,oV,oW,oX,oY,oZ,qA,qB,qC,qD,qE,qF,qG,qH,qI,qJ,qK,qL,qM,qN,qO,qP,qQ,qR,qS,qT,qU,qV,qW,qX,qY,qZ,rA,rB,rC,rD,rE,rF,rG,rH,rI,rJ,rK,rL,rM,rN,rO,rP,rQ,rR,rS,rT,rU,rV,rW,rX,rY,rZ,jA,jB,jC,jD,jE,jF,jG,jH,jI,jJ,jK,jL,jM,jN,jO,jP,jQ,jR,jS], defers := [] } w := by
 conv => arg 2; whnf
 refine st_intro (fun Q2 hQ2 => ?_)
 replace hQ2 := hid hQ2
 have lm24 := cell_lt c240; dsimp only at lm24
 have lm25 := cell_lt c250; dsimp only at lm25
 have lm27 := cell_lt c270; dsimp only at lm27
 have lm28 := cell_lt c280; dsimp only at lm28
 replace s24 := hid s24
 replace s25 := hid s25
 replace s27 := hid s27
 replace s28 := hid s28
 replace l1 := hid l1
 replace l2 := hid l2
 replace l3 := hid l3
 go_wp2_with fail
 refine (s24.out _).mono ?_; rintro e u0 ⟨rfl, hE⟩
 have x0 : Ext w u0 := exE
 clear hE
 replace c240 := x0.cell c240
 replace c241 := x0.cell c241
 replace c250 := x0.cell c250
 replace c251 := x0.cell c251
 replace c270 := x0.cell c270
 replace c271 := x0.cell c271
 replace c280 := x0.cell c280
 replace c281 := x0.cell c281
 have m024 := cell_lt c240; dsimp only at m024
 have m025 := cell_lt c250; dsimp only at m025
 have m027 := cell_lt c270; dsimp only at m027
 have m028 := cell_lt c280; dsimp only at m028
 go_wp2_with fail
 refine (s25.out _).mono ?_; rintro e u1 ⟨rfl, hE⟩
 have x1 : Ext u0 u1 := exE
 clear hE
 replace c240 := x1.cell c240
 replace c241 := x1.cell c241
 replace c250 := x1.cell c250
 replace c251 := x1.cell c251
 replace c270 := x1.cell c270
 replace c271 := x1.cell c271
 replace c280 := x1.cell c280
 replace c281 := x1.cell c281
 have m124 := cell_lt c240; dsimp only at m124
 have m125 := cell_lt c250; dsimp only at m125
 have m127 := cell_lt c270; dsimp only at m127
 have m128 := cell_lt c280; dsimp only at m128
 go_wp2_with fail
 refine (s27.out _).mono ?_; rintro e u2 ⟨rfl, hE⟩
 have x2 : Ext u1 u2 := exE
 clear hE
 replace c240 := x2.cell c240
 replace c241 := x2.cell c241
 replace c250 := x2.cell c250
 replace c251 := x2.cell c251
 replace c270 := x2.cell c270
 replace c271 := x2.cell c271
 replace c280 := x2.cell c280
 replace c281 := x2.cell c281
 have m224 := cell_lt c240; dsimp only at m224
 have m225 := cell_lt c250; dsimp only at m225
 have m227 := cell_lt c270; dsimp only at m227
 have m228 := cell_lt c280; dsimp only at m228
 go_wp2_with fail
 refine (s28.out _).mono ?_; rintro e u3 ⟨rfl, hE⟩
 have x3 : Ext u2 u3 := exE
 clear hE
 replace c240 := x3.cell c240
 replace c241 := x3.cell c241
 replace c250 := x3.cell c250
 replace c251 := x3.cell c251
 replace c270 := x3.cell c270
 replace c271 := x3.cell c271
 replace c280 := x3.cell c280
 replace c281 := x3.cell c281
 have m324 := cell_lt c240; dsimp only at m324
 have m325 := cell_lt c250; dsimp only at m325
 have m327 := cell_lt c270; dsimp only at m327
 have m328 := cell_lt c280; dsimp only at m328
 go_wp2_with fail
 refine (l1.out _).mono ?_; rintro e u4 ⟨rfl, hE⟩
 have x4 : Ext u3 u4 := exE
 clear hE
 replace c240 := x4.cell c240
 replace c241 := x4.cell c241
 replace c250 := x4.cell c250
 replace c251 := x4.cell c251
 replace c270 := x4.cell c270
 replace c271 := x4.cell c271
 replace c280 := x4.cell c280
 replace c281 := x4.cell c281
 have m424 := cell_lt c240; dsimp only at m424
 have m425 := cell_lt c250; dsimp only at m425
 have m427 := cell_lt c270; dsimp only at m427
 have m428 := cell_lt c280; dsimp only at m428
 go_wp2_with fail
 refine (l2.out _).mono ?_; rintro e u5 ⟨rfl, hE⟩
 have x5 : Ext u4 u5 := exE
 clear hE
 replace c240 := x5.cell c240
 replace c241 := x5.cell c241
 replace c250 := x5.cell c250
 replace c251 := x5.cell c251
 replace c270 := x5.cell c270
 replace c271 := x5.cell c271
 replace c280 := x5.cell c280
 replace c281 := x5.cell c281
 have m524 := cell_lt c240; dsimp only at m524
 have m525 := cell_lt c250; dsimp only at m525
 have m527 := cell_lt c270; dsimp only at m527
 have m528 := cell_lt c280; dsimp only at m528
 go_wp2_with fail
 refine (l3.out _).mono ?_; rintro e u6 ⟨rfl, hE⟩
 have x6 : Ext u5 u6 := exE
 clear hE
 replace c240 := x6.cell c240
 replace c241 := x6.cell c241
 replace c250 := x6.cell c250
 replace c251 := x6.cell c251
 replace c270 := x6.cell c270
 replace c271 := x6.cell c271
 replace c280 := x6.cell c280
 replace c281 := x6.cell c281
 have m624 := cell_lt c240; dsimp only at m624
 have m625 := cell_lt c250; dsimp only at m625
 have m627 := cell_lt c270; dsimp only at m627
 have m628 := cell_lt c280; dsimp only at m628
 have x : Ext w u6 := ((((((x0.trans x1).trans x2).trans x3).trans x4).trans x5).trans x6)
 go_wp2_with fail
 rw [hQ2.out]
 exact ⟨rfl, _, _, _, _, _, _, _, _, _, _, _, _, _, _, _, _, _, _, _, _, _, _, _, _, _, _, _, _, _, _, _, _, _, _, _, _, _, _, _, _, rfl, exE⟩
end Go.Proofs.Ytpnfhcnnodolbaa
