/- Texts of one proof, laid together: Leq, Min, Sha, Lbd, Lls, Hld. -/
import Derived.Test.YtpnfhcnnodolbaaZHeldA37
import Derived.Test.YtpnfhcnnodolbaaZY26
import Derived.Test.YtpnfhcnnodolbaaZY10
import Derived.Test.YtpnfhcnnodolbaaZY7
import Derived.Test.YtpnfhcnnodolbaaZY2
import Derived.Test.YtpnfhcnnodolbaaZHeldA34
import Derived.Test.YtpnfhcnnodolbaaZY25
import Derived.Test.YtpnfhcnnodolbaaZY11
import Derived.Test.YtpnfhcnnodolbaaZY4
import Derived.Test.YtpnfhcnnodolbaaZY18
import Derived.Test.YtpnfhcnnodolbaaZY17
import Derived.Test.YtpnfhcnnodolbaaZY16
import Derived.Test.YtpnfhcnnodolbaaZY8
import Derived.Test.YtpnfhcnnodolbaaZHeldA35
import Derived.Test.YtpnfhcnnodolbaaZY12
import Derived.Test.YtpnfhcnnodolbaaZY3
import Derived.Test.YtpnfhcnnodolbaaZHeldA36
import Derived.Test.YtpnfhcnnodolbaaZY22
import Derived.Test.YtpnfhcnnodolbaaZY20
import Derived.Test.YtpnfhcnnodolbaaZY21
import Derived.Test.YtpnfhcnnodolbaaZY9
import Derived.Test.YtpnfhcnnodolbaaZY5
import Derived.Test.YtpnfhcnnodolbaaZY13
import Derived.Test.YtpnfhcnnodolbaaZY19
import Derived.Test.YtpnfhcnnodolbaaZY1
import Derived.Test.YtpnfhcnnodolbaaZY30
import Derived.Test.YtpnfhcnnodolbaaZY28
import Derived.Test.YtpnfhcnnodolbaaZY23
import Derived.Test.YtpnfhcnnodolbaaZY14
import Derived.Test.YtpnfhcnnodolbaaZY27
import Derived.Test.YtpnfhcnnodolbaaZY6
set_option linter.unusedVariables false
set_option linter.unusedSimpArgs false
set_option linter.unusedSectionVars false
set_option linter.unnecessarySimpa false
namespace Go.Proofs.Ytpnfhcnnodolbaa
open Go Go.RowKit Game
theorem bstN_best {lt : Nat → Nat → Bool} {n : Nat} (irr : ∀ i, i < n → lt i i = false) (tr : ∀ i j k, i < n → j < n → k < n → lt i j = true → lt j k = true → lt i k = true) :
 ∀ k, k < n → ∀ j, j ≤ k → lt j (bstN lt k) = false
 | 0, h0, j, hj => by obtain rfl : j = 0 := by omega
                      exact irr 0 h0
 | k + 1, hk, j, hj => by
  have ih := bstN_best irr tr k (by omega)
  have hle := bstN_le lt k
  simp only [bstN]
  by_cases g : lt (k + 1) (bstN lt k) = true
  ·rw [if_pos g]
   by_cases e : j = k + 1
   ·subst e; exact irr _ hk
   ·rw [Bool.eq_false_iff]
    intro h
    have := tr j (k + 1) (bstN lt k) (by omega) hk (by omega) h g
    rw [ih j (by omega)] at this
    cases this
  ·rw [if_neg g]
   by_cases e : j = k + 1
   ·subst e; exact (Bool.eq_false_iff).2 g
   ·exact ih j (by omega)
theorem lt_trans3 {a b c p q r : Int} (hp : 0 < p) (hq : 0 < q) (hr : 0 < r) (h1 : a * q < b * p) (h2 : b * r < c * q) : a * r < c * p := by
 have e1 := Int.mul_lt_mul_of_pos_right h1 hr
 have e2 := Int.mul_lt_mul_of_pos_right h2 hp
 refine Int.lt_of_mul_lt_mul_right (a := q) ?_ (by omega)
 rw [show a * r * q = a * q * r by grind, show c * p * q = c * q * p by grind]
 rw [show b * p * r = b * r * p by grind] at e1
 exact Int.lt_trans e1 e2
theorem best_in {L : List (List Int)} (h0 : 0 < L.length) (lt : Nat → Nat → Bool) : row L (bstN lt (L.length - 1)) ∈ L := by
 have := bstN_le lt (L.length - 1)
 rw [row_lt (by omega)]
 exact List.getElem_mem _
theorem edges_zero {l : List Met} (v : VldM l) {u c : Int} (hu : 0 ≤ u ∧ u ≤ 1000) (hc : 0 ≤ c ∧ c ≤ 1000) (s : Bool) : (edP l u c s).length = 0 ↔ (edg l u c s).length = 0 := by
 constructor
 ·intro h
  have h1 := List.eq_nil_of_length_eq_zero h
  refine Classical.byContradiction fun g => ?_
  have := edg_sub v hu hc (s := s) (List.getElem_mem (show 0 < (edg l u c s).length by omega))
  rw [h1] at this; simp at this
 ·intro h
  have h1 := List.eq_nil_of_length_eq_zero h
  refine Classical.byContradiction fun g => ?_
  have := edP_sub v hu hc (s := s) (List.getElem_mem (show 0 < (edP l u c s).length by omega))
  rw [h1] at this; simp at this
theorem che_eq (l : List Met) (u c : Int) (s : Bool) : cheE l u c s = lrE l u c s := by
 unfold cheE lrE
 by_cases g : ¬ chkB l u c = 0
 ·rw [if_pos g, if_pos g]
 ·rw [if_neg g, if_neg g]
  obtain ⟨v, hu, hc⟩ := chkB_ok (Decidable.not_not.1 g)
  have := edges_zero v hu hc s
  by_cases h : (edP l u c s).length = 0
  ·rw [if_pos h, if_pos (this.1 h)]
  ·rw [if_neg h, if_neg (fun h' => h (this.2 h'))]
def exT (l : List Met) (u c : Int) (s : Bool) (i j : Nat) : Int := if j = 0 then - exA l u c s i else - exC l u c s i
structure Gx (l : List Met) (u c : Int) (s : Bool) (x : List Int) : Prop where
 len : x.length = l.length
 nn : ∀ i, 0 ≤ nth x i
 ps : 0 < psum x
 gd : isG l u c s x = true
theorem exT_sum {l : List Met} (u c : Int) (s : Bool) {x : List Int} (hl : x.length = l.length) :
 ag (exT l u c s) l.length (nth x) 0 = u * psum x - ledN l s x l.length ∧ ag (exT l u c s) l.length (nth x) 1 = copN l s x l.length - c * psum x := by
 constructor
 ·have e : ag (exT l u c s) l.length (nth x) 0 = sm l.length (fun i => u * nth x i + (-1) * (nth x i * badL (mtl l i) s)) := sm_congr fun i _ => by simp [exT, exA, spr]; grind
  rw [e, sm_lin (x := nth x) (z := fun i => nth x i * badL (mtl l i) s)]
  unfold ledN psum; rw [hl]; omega
 ·have e : ag (exT l u c s) l.length (nth x) 1 = sm l.length (fun i => (-c) * nth x i + 1 * (nth x i * goodC (mtl l i) s)) := sm_congr fun i _ => by simp [exT, exC, spr]; grind
  rw [e, sm_lin (x := nth x) (z := fun i => nth x i * goodC (mtl l i) s)]
  unfold copN psum; rw [hl, Int.neg_mul]; omega
theorem isG_iff {l : List Met} {u c : Int} {s : Bool} {x : List Int} (hl : x.length = l.length) : isG l u c s x = true ↔ Al (exT l u c s) l.length 2 (nth x) := by
 obtain ⟨a, b⟩ := exT_sum u c s hl
 unfold isG Al
 rw [Bool.and_eq_true, decide_eq_true_eq, decide_eq_true_eq]
 constructor
 ·intro h j hj
  obtain rfl | rfl : j = 0 ∨ j = 1 := by omega
  ·omega
  ·omega
 ·intro h
  have h0 := h 0 (by omega)
  have h1 := h 1 (by omega)
  omega
theorem ab_abs (p : Int) : ab p = absI p := by unfold ab absI; split <;> split <;> omega
theorem sgn2_of {a0 a1 : Int} (h : Gd [a0, a1]) : ((0 ≤ a0 ∧ 0 ≤ a1) ∨ (a0 ≤ 0 ∧ a1 ≤ 0)) ∧ (a0 ≠ 0 ∨ a1 ≠ 0) := by
 obtain ⟨⟨a, ha, hne⟩, hno⟩ := h
 constructor
 ·refine Classical.byContradiction fun hc => hno ?_
  have h1 : a0 < 0 ∨ a1 < 0 := by omega
  have h2 : 0 < a0 ∨ 0 < a1 := by omega
  exact ⟨h1.elim (fun h => ⟨a0, by simp, h⟩) (fun h => ⟨a1, by simp, h⟩), h2.elim (fun h => ⟨a0, by simp, h⟩) (fun h => ⟨a1, by simp, h⟩)⟩
 ·simp at ha; rcases ha with rfl | rfl
  ·exact .inl hne
  ·exact .inr hne
theorem sgn3_of {a0 a1 a2 : Int} (h : Gd [a0, a1, a2]) : ((0 ≤ a0 ∧ 0 ≤ a1 ∧ 0 ≤ a2) ∨ (a0 ≤ 0 ∧ a1 ≤ 0 ∧ a2 ≤ 0)) ∧ (a0 ≠ 0 ∨ a1 ≠ 0 ∨ a2 ≠ 0) := by
 obtain ⟨⟨a, ha, hne⟩, hno⟩ := h
 constructor
 ·refine Classical.byContradiction fun hc => hno ?_
  have h1 : a0 < 0 ∨ a1 < 0 ∨ a2 < 0 := by omega
  have h2 : 0 < a0 ∨ 0 < a1 ∨ 0 < a2 := by omega
  refine ⟨?_, ?_⟩
  ·rcases h1 with h | h | h
   ·exact ⟨a0, by simp, h⟩
   ·exact ⟨a1, by simp, h⟩
   ·exact ⟨a2, by simp, h⟩
  ·rcases h2 with h | h | h
   ·exact ⟨a0, by simp, h⟩
   ·exact ⟨a1, by simp, h⟩
   ·exact ⟨a2, by simp, h⟩
 ·simp at ha; rcases ha with rfl | rfl | rfl
  ·exact .inl hne
  ·exact .inr (.inl hne)
  ·exact .inr (.inr hne)
theorem sgnP2 {p0 p1 : Int} (h : (0 ≤ p0 ∧ 0 ≤ p1) ∨ (p0 ≤ 0 ∧ p1 ≤ 0)) (h2 : p0 ≠ 0 ∨ p1 ≠ 0) : SgnP 2 (nth [p0, p1]) := by
 refine ⟨?_, ?_⟩
 ·rcases h with h | h
  ·exact .inl (two_cases h.1 h.2)
  ·exact .inr (two_cases h.1 h.2)
 ·rcases h2 with h | h
  ·exact ⟨0, by omega, h⟩
  ·exact ⟨1, by omega, h⟩
theorem sgnP3 {p0 p1 p2 : Int} (h : (0 ≤ p0 ∧ 0 ≤ p1 ∧ 0 ≤ p2) ∨ (p0 ≤ 0 ∧ p1 ≤ 0 ∧ p2 ≤ 0)) (h2 : p0 ≠ 0 ∨ p1 ≠ 0 ∨ p2 ≠ 0) : SgnP 3 (nth [p0, p1, p2]) := by
 refine ⟨?_, ?_⟩
 ·rcases h with h | h
  ·exact .inl (three_cases h.1 h.2.1 h.2.2)
  ·exact .inr (three_cases h.1 h.2.1 h.2.2)
 ·rcases h2 with h | h | h
  ·exact ⟨0, by omega, h⟩
  ·exact ⟨1, by omega, h⟩
  ·exact ⟨2, by omega, h⟩
theorem put_eq {n : Nat} {t : List Nat} {p : List Int} (n1 : 1 ≤ n) (hs : SgnP p.length (nth p)) (ht : ∀ k, k < p.length → t.getD k 0 < n) (hd : ∀ j k, j < k → k < p.length → t.getD j 0 ≠ t.getD k 0)
 (e : Nat → Int) (h1 : ∀ k, k < p.length → e (t.getD k 0) = absI (nth p k)) (h2 : ∀ i, (∀ k, k < p.length → t.getD k 0 ≠ i) → e i = 0) : mkL n e = putL n t p := by
 have hl := (putL_iff (t := t) n1).2 hs
 refine list_ext_nth (by rw [mkL_len, hl]) fun i hi => ?_
 rw [mkL_len] at hi
 rw [mkL_nth _ hi, (putL_out n1 hl).1]
 by_cases g : ∃ k, k < p.length ∧ t.getD k 0 = i
 ·obtain ⟨k, hk, rfl⟩ := g
  rw [out_at ht hd _ (Nat.le_refl _) k hk, h1 k hk]
 ·have h3 : ∀ k, k < p.length → t.getD k 0 ≠ i := fun k hk e => g ⟨k, hk, e⟩
  rw [out_else h3 _ (Nat.le_refl _), h2 i h3]
theorem edge_in {l : List Met} (v : VldM l) {u c : Int} {s : Bool} {e : Nat → Int} (he : EdgeA (exT l u c s) l.length e) (hA : Al (exT l u c s) l.length 2 e) : mkL l.length e ∈ edg l u c s := by
 have n1 := v.n1
 have hg : isG l u c s (mkL l.length e) = true := by
  rw [isG_iff (mkL_len _ _)]
  intro j hj
  have := hA j hj
  rw [show ag (exT l u c s) l.length (nth (mkL l.length e)) j = ag (exT l u c s) l.length e j from sm_congr fun i hi => by rw [mkL_nth _ hi]]
  exact this
 refine edg_in ?_ (mkL_len _ _) hg
 rcases he with ⟨a, ha, rfl⟩ | ⟨a, b, j, hab, hb, hj, hGd, rfl⟩ | ⟨a, b, d, hab, hbd, hd, hGd, rfl⟩
 ·refine .inl ⟨a, ha, put_eq n1 (by refine ⟨.inl fun k hk => ?_, 0, by simp, by decide⟩; (have : k = 0 := by simpa using hk); subst this; decide) (fun k hk => ?_) (fun j k hjk hk => ?_) _ (fun k hk => ?_) (fun i hi => ?_)⟩
  ·have : k = 0 := by simpa using hk
   subst this; simpa using ha
  ·simp at hk; omega
  ·have : k = 0 := by simpa using hk
   subst this; simp [put, ab, absI, nth]
  ·have := hi 0 (by simp)
   simp only [List.getD_cons_zero] at this
   simp only [List.map, put, if_neg (Ne.symm this)]
 ·obtain ⟨h1, h2⟩ := sgn2_of hGd
  have hne : ¬ b = a := by omega
  have main : ∀ X : Nat → Int, (∀ i, exT l u c s i j = - X i) → mkL l.length (put [a, b] ([exT l u c s b j, - exT l u c s a j].map ab)) = putL l.length [b, a] [X a, - X b] := fun X hX => by
   rw [hX, hX] at h1 h2 ⊢
   refine put_eq (p := [X a, - X b]) n1 (sgnP2 (by omega) (by omega)) (fun k hk => ?_) (fun j k hjk hk => ?_) _ (fun k hk => ?_) (fun i hi => ?_)
   ·rcases k with _ | _ | k <;> simp at hk ⊢ <;> omega
   ·rcases k with _ | _ | k
    ·omega
    ·obtain rfl : j = 0 := by omega
     simp; omega
    ·simp at hk; omega
   ·rcases k with _ | _ | k
    ·simp only [List.getD_cons_zero, List.map, put, if_neg hne, if_true, nth_zero, ab_abs, Int.neg_neg]
    ·simp only [List.getD_cons_zero, List.getD_cons_succ, List.map, put, if_true, nth_succ, nth_zero, ab_abs]
    ·simp at hk; omega
   ·have i0 := hi 0 (by simp)
    have i1 := hi 1 (by simp)
    simp only [List.getD_cons_zero, List.getD_cons_succ] at i0 i1
    simp only [List.map, put, if_neg (Ne.symm i1), if_neg (Ne.symm i0)]
  refine .inr (.inl ⟨b, a, hab, hb, ?_⟩)
  obtain rfl | rfl : j = 0 ∨ j = 1 := by omega
  ·exact .inl (main (exA l u c s) fun i => by simp [exT])
  ·exact .inr (main (exC l u c s) fun i => by simp [exT])
 ·obtain ⟨h1, h2⟩ := sgn3_of hGd
  have hba : ¬ b = a := by omega
  have hda : ¬ d = a := by omega
  have hdb : ¬ d = b := by omega
  refine .inr (.inr ⟨d, b, a, hab, hbd, hd, ?_⟩)
  have hX : ∀ i, exT l u c s i 0 = - exA l u c s i := fun i => by simp [exT]
  have hY : ∀ i, exT l u c s i 1 = - exC l u c s i := fun i => by simp [exT]
  generalize hp0 : exT l u c s b 0 * exT l u c s d 1 - exT l u c s b 1 * exT l u c s d 0 = g0 at h1 h2 ⊢
  generalize hp1 : exT l u c s d 0 * exT l u c s a 1 - exT l u c s d 1 * exT l u c s a 0 = g1 at h1 h2 ⊢
  generalize hp2 : exT l u c s a 0 * exT l u c s b 1 - exT l u c s a 1 * exT l u c s b 0 = g2 at h1 h2 ⊢
  rw [hX, hX, hY, hY] at hp0 hp1 hp2
  have q0 : exA l u c s b * exC l u c s a - exC l u c s b * exA l u c s a = - g2 := by grind
  have q1 : exA l u c s a * exC l u c s d - exC l u c s a * exA l u c s d = - g1 := by grind
  have q2 : exA l u c s d * exC l u c s b - exC l u c s d * exA l u c s b = - g0 := by grind
  rw [q0, q1, q2]
  refine put_eq (p := [- g2, - g1, - g0]) n1 (sgnP3 (by omega) (by omega)) (fun k hk => ?_) (fun j k hjk hk => ?_) _ (fun k hk => ?_) (fun i hi => ?_)
  ·rcases k with _ | _ | _ | k <;> simp at hk ⊢ <;> omega
  ·rcases k with _ | _ | _ | k
   ·omega
   ·obtain rfl : j = 0 := by omega
    simp; omega
   ·have : j = 0 ∨ j = 1 := by omega
    rcases this with rfl | rfl <;> simp <;> omega
   ·simp at hk; omega
  ·rcases k with _ | _ | _ | k
   ·simp only [List.getD_cons_zero, List.map, put, if_neg hda, if_neg hdb, if_true, nth_zero, ab_abs, absI_neg]
   ·simp only [List.getD_cons_zero, List.getD_cons_succ, List.map, put, if_neg hba, if_true, nth_succ, nth_zero, ab_abs, absI_neg]
   ·simp only [List.getD_cons_zero, List.getD_cons_succ, List.map, put, if_true, nth_succ, nth_zero, ab_abs, absI_neg]
   ·simp at hk; omega
  ·have i0 := hi 0 (by simp)
   have i1 := hi 1 (by simp)
   have i2 := hi 2 (by simp)
   simp only [List.getD_cons_zero, List.getD_cons_succ] at i0 i1 i2
   simp only [List.map, put, if_neg (Ne.symm i2), if_neg (Ne.symm i1), if_neg (Ne.symm i0)]
def fsm (l : List Met) (f : Nat → Int) (x : List Int) : Int := sm l.length fun i => nth x i * f i
theorem edge_min {l : List Met} (v : VldM l) {u c : Int} {s : Bool} (f : Nat → Int) {x : List Int} (g : Gx l u c s x) : ∃ y, y ∈ edg l u c s ∧ fsm l f y * psum x ≤ fsm l f x * psum y := by
 have hx : Pl l.length (nth x) := ⟨fun i _ => g.nn i, by have := g.ps; unfold psum at this; rw [g.len] at this; exact this⟩
 obtain ⟨e, he, hp, hA, hle⟩ := edge_le f hx ((isG_iff g.len).1 g.gd)
 refine ⟨mkL l.length e, edge_in v he hA, ?_⟩
 have e1 : fsm l f (mkL l.length e) = co f l.length e := sm_congr fun i hi => by rw [mkL_nth _ hi]
 have e2 : psum (mkL l.length e) = sm l.length e := by unfold psum; rw [mkL_len]; exact sm_congr fun i hi => by rw [mkL_nth _ hi]
 have e3 : psum x = sm l.length (nth x) := by unfold psum; rw [g.len]
 rw [e1, e2, e3]
 exact hle
theorem edg_gx {l : List Met} (v : VldM l) {u c : Int} (hu : 0 ≤ u ∧ u ≤ 1000) (hc : 0 ≤ c ∧ c ≤ 1000) {s : Bool} {x : List Int} (h : x ∈ edg l u c s) : Gx l u c s x := by
 obtain ⟨a, b, _⟩ := edg_ok v hu hc h
 exact ⟨a.len, fun i => (a.prt i).1, a.pos, b⟩
theorem gx_che {l : List Met} {u c : Int} (hB : chkB l u c = 0) (s : Bool) : cheE l u c s = 0 ↔ ∃ x, Gx l u c s x := by
 obtain ⟨v, hu, hc⟩ := chkB_ok hB
 rw [che_eq]
 unfold lrE
 rw [if_neg (fun h => h hB)]
 constructor
 ·intro h
  have h0 : 0 < (edg l u c s).length := by
   refine Classical.byContradiction fun g => ?_
   rw [if_pos (by omega)] at h; cases h
  exact ⟨_, edg_gx v hu hc (List.getElem_mem h0)⟩
 ·rintro ⟨x, g⟩
  obtain ⟨y, hy, _⟩ := edge_min v (fun _ => 0) g
  have : (edg l u c s).length ≠ 0 := fun e => by
   have := List.eq_nil_of_length_eq_zero e
   rw [this] at hy; simp at hy
  rw [if_neg this]
theorem che_two {l : List Met} {u c : Int} (hB : chkB l u c = 0) (s : Bool) : cheE l u c s = 0 ∨ cheE l u c s = 17 := by
 unfold cheE
 rw [if_neg (fun h => h hB)]
 split
 ·exact .inr rfl
 ·exact .inl rfl
theorem che_pos {l : List Met} {u c : Int} (hB : chkB l u c = 0) {s : Bool} (h : cheE l u c s = 0) : 0 < (edP l u c s).length := by
 refine Classical.byContradiction fun g => ?_
 unfold cheE at h
 rw [if_neg (fun h' => h' hB), if_pos (by omega)] at h; cases h
theorem chp_gx {l : List Met} {u c : Int} (hB : chkB l u c = 0) {s : Bool} (h : cheE l u c s = 0) : Gx l u c s (chpL l u c s) ∧ chpL l u c s ∈ edg l u c s := by
 obtain ⟨v, hu, hc⟩ := chkB_ok hB
 have := edP_sub v hu hc (chp_mem (che_pos hB h))
 exact ⟨edg_gx v hu hc this, this⟩
theorem bstF {p q : Nat → Int} {lt : Nat → Nat → Bool} {n : Nat} (h : ∀ i j, i < n → j < n → lt i j = decide (p i * q j < p j * q i)) (hq : ∀ i, i < n → 0 < q i) (h0 : 0 < n) {j : Nat} (hj : j < n) :
 p (bstN lt (n - 1)) * q j ≤ p j * q (bstN lt (n - 1)) := by
 have hb := bstN_le lt (n - 1)
 have := bstN_best (lt := lt) (n := n)
  (fun i hi => by rw [h i i hi hi, decide_eq_false_iff_not]; omega)
  (fun a b d ha hb hd h1 h2 => by
   rw [h a b ha hb, decide_eq_true_eq] at h1
   rw [h b d hb hd, decide_eq_true_eq] at h2
   rw [h a d ha hd, decide_eq_true_eq]
   exact lt_trans3 (hq a ha) (hq b hb) (hq d hd) h1 h2) (n - 1) (by omega) j (by omega)
 rw [h j _ hj (by omega), decide_eq_false_iff_not] at this
 omega
theorem shLo_le {m : Nat} {L : List (List Int)} (hL : ∀ x ∈ L, 0 < psum x) {y : List Int} (hy : y ∈ L) : shLo m L ∈ L ∧ nth (shLo m L) m * psum y ≤ nth y m * psum (shLo m L) := by
 obtain ⟨j, hj, e⟩ := List.getElem_of_mem hy
 have ok : ∀ i, i < L.length → 0 < psum (row L i) := fun i hi => hL _ (by rw [row_lt hi]; exact List.getElem_mem hi)
 refine ⟨best_in (by omega) _, ?_⟩
 have := bstF (p := fun i => nth (row L i) m) (q := fun i => psum (row L i)) (lt := fun i j => lessB (shN m (row L i)) (shD m (row L i)) (shN m (row L j)) (shD m (row L j))) (n := L.length) (fun i j hi hj => rat_lt (ok i hi) (ok j hj)) ok (by omega) hj
 rw [← e, ← row_lt hj]
 exact this
theorem shHi_ge {m : Nat} {L : List (List Int)} (hL : ∀ x ∈ L, 0 < psum x) {y : List Int} (hy : y ∈ L) : shHi m L ∈ L ∧ nth y m * psum (shHi m L) ≤ nth (shHi m L) m * psum y := by
 obtain ⟨j, hj, e⟩ := List.getElem_of_mem hy
 have ok : ∀ i, i < L.length → 0 < psum (row L i) := fun i hi => hL _ (by rw [row_lt hi]; exact List.getElem_mem hi)
 refine ⟨best_in (by omega) _, ?_⟩
 have := bstF (p := fun i => - nth (row L i) m) (q := fun i => psum (row L i)) (lt := fun i j => lessB (shN m (row L j)) (shD m (row L j)) (shN m (row L i)) (shD m (row L i))) (n := L.length) (fun i j hi hj => by
  rw [show lessB (shN m (row L j)) (shD m (row L j)) (shN m (row L i)) (shD m (row L i)) = decide (nth (row L j) m * psum (row L i) < nth (row L i) m * psum (row L j)) from rat_lt (ok j hj) (ok i hi), Int.neg_mul, Int.neg_mul]
  exact decide_eq_decide.2 (by omega)) ok (by omega) hj
 rw [Int.neg_mul, Int.neg_mul] at this
 rw [← e, ← row_lt hj]
 unfold shHi
 omega
theorem edP_ps {l : List Met} {u c : Int} (hB : chkB l u c = 0) {s : Bool} : ∀ x ∈ edP l u c s, 0 < psum x := fun x hx => by
 obtain ⟨v, hu, hc⟩ := chkB_ok hB
 exact (edP_ok v hu hc hx).1.pos
theorem edg_ps {l : List Met} {u c : Int} (hB : chkB l u c = 0) {s : Bool} : ∀ x ∈ edg l u c s, 0 < psum x := fun x hx => by
 obtain ⟨v, hu, hc⟩ := chkB_ok hB
 exact (edg_ok v hu hc hx).1.pos
def one (m : Nat) (k : Int) (i : Nat) : Int := if i = m then k else 0
theorem fsm_one {l : List Met} {m : Nat} (hm : m < l.length) (k : Int) (x : List Int) : fsm l (one m k) x = k * nth x m := by
 unfold fsm
 rw [sm_split _ hm, sm_zero (f := fun i => if i = m then 0 else nth x i * one m k i) fun i _ => by
  split
  ·rfl
  ·rename_i h; unfold one; rw [if_neg h]; omega]
 unfold one; rw [if_pos rfl]; rw [Int.mul_comm]; omega
theorem sh_ends {l : List Met} {u c : Int} (hB : chkB l u c = 0) {s : Bool} (h : cheE l u c s = 0) {m : Nat} (hm : m < l.length) :
 (shLo m (edP l u c s) ∈ edg l u c s ∧ ∀ x, Gx l u c s x → nth (shLo m (edP l u c s)) m * psum x ≤ nth x m * psum (shLo m (edP l u c s))) ∧
 (shHi m (edP l u c s) ∈ edg l u c s ∧ ∀ x, Gx l u c s x → nth x m * psum (shHi m (edP l u c s)) ≤ nth (shHi m (edP l u c s)) m * psum x) := by
 obtain ⟨v, hu, hc⟩ := chkB_ok hB
 have hm0 := chp_mem (che_pos hB h)
 have i1 := edP_sub v hu hc (shLo_le (m := m) (edP_ps hB) hm0).1
 have i2 := edP_sub v hu hc (shHi_ge (m := m) (edP_ps hB) hm0).1
 have p1 := edg_ps hB _ i1
 have p2 := edg_ps hB _ i2
 refine ⟨⟨i1, fun x g => ?_⟩, i2, fun x g => ?_⟩
 ·obtain ⟨y, hy, hle⟩ := edge_min v (one m 1) g
  rw [fsm_one hm, fsm_one hm, Int.one_mul, Int.one_mul] at hle
  exact ratio_trans (edg_ps hB _ hy) p1 g.ps (shLo_le (m := m) (edP_ps hB) (edg_sub v hu hc hy)).2 hle
 ·obtain ⟨y, hy, hle⟩ := edge_min v (one m (-1)) g
  rw [fsm_one hm, fsm_one hm] at hle
  have h1 := (shHi_ge (m := m) (edP_ps hB) (edg_sub v hu hc hy)).2
  have := ratio_trans (a := - nth (shHi m (edP l u c s)) m) (b := psum (shHi m (edP l u c s))) (c := - nth y m) (d := psum y) (e := - nth x m) (f := psum x) (edg_ps hB _ hy) p2 g.ps (by rw [Int.neg_mul, Int.neg_mul]; omega) (by
   rw [show -1 * nth y m * psum x = - nth y m * psum x by grind, show -1 * nth x m * psum y = - nth x m * psum y by grind] at hle
   exact hle)
  rw [Int.neg_mul, Int.neg_mul] at this
  omega
theorem mle {p q B : Int} (hp : 0 ≤ p) (hq : q ≤ B) : p * q ≤ B * p := by
 have := Int.mul_le_mul_of_nonneg_left hq hp
 rw [Int.mul_comm B p]; exact this
theorem cross_le {u c a1 b1 a2 b2 : Int} (hu : 0 ≤ u ∧ u ≤ 1000) (hc : 0 ≤ c ∧ c ≤ 1000) (h1 : -u ≤ a1 ∧ a1 ≤ 1000 - u) (h2 : -u ≤ b1 ∧ b1 ≤ 1000 - u) (h3 : c - 1000 ≤ a2 ∧ a2 ≤ c) (h4 : c - 1000 ≤ b2 ∧ b2 ≤ c) : a1 * b2 - a2 * b1 ≤ 1000000 := by
 have n1 : ∀ p q : Int, 0 ≤ p → q ≤ 0 → p * q ≤ 0 := fun p q hp hq => Int.mul_nonpos_of_nonneg_of_nonpos hp hq
 have n2 : ∀ p q : Int, 0 ≤ p → 0 ≤ q → 0 ≤ p * q := fun p q hp hq => Int.mul_nonneg hp hq
 rcases Int.le_total 0 a1 with s1 | s1 <;> rcases Int.le_total 0 b2 with s4 | s4 <;> rcases Int.le_total 0 a2 with s3 | s3 <;> rcases Int.le_total 0 b1 with s2 | s2
 ·have := n2 _ _ s3 s2; have := mle (B := 1000) s1 (show b2 ≤ 1000 by omega); omega
 ·have e : a2 * b1 = - (-b1 * a2) := by grind
  have := mle (B := 1000) s1 (show b2 ≤ 1000 by omega); have := mle (B := 1000) (show 0 ≤ -b1 by omega) (show a2 ≤ 1000 by omega); omega
 ·have e : a2 * b1 = - (-a2 * b1) := by grind
  have e2 : a1 * b2 = b2 * a1 := by grind
  have := mle (B := 1000) s4 (show a1 ≤ 1000 by omega); have := mle (B := 1000) (show 0 ≤ -a2 by omega) (show b1 ≤ 1000 by omega); omega
 ·have e : a2 * b1 = (-a2) * (-b1) := by grind
  have := n2 (-a2) (-b1) (by omega) (by omega); have := mle (B := 1000) s1 (show b2 ≤ 1000 by omega); omega
 ·have := n1 _ _ s1 s4; have := n2 _ _ s3 s2; omega
 ·have e : a2 * b1 = - (-b1 * a2) := by grind
  have := n1 _ _ s1 s4; have := mle (B := 1000) (show 0 ≤ -b1 by omega) (show a2 ≤ 1000 by omega); omega
 ·have e : a2 * b1 = - (-a2 * b1) := by grind
  have := n1 _ _ s1 s4; have := mle (B := 1000) (show 0 ≤ -a2 by omega) (show b1 ≤ 1000 by omega); omega
 ·have e : a2 * b1 = (-a2) * (-b1) := by grind
  have := n1 _ _ s1 s4; have := n2 (-a2) (-b1) (by omega) (by omega); omega
 ·have e2 : a1 * b2 = b2 * a1 := by grind
  have := n1 _ _ s4 s1; have := n2 _ _ s3 s2; omega
 ·have e2 : a1 * b2 = b2 * a1 := by grind
  have e : a2 * b1 = - (-b1 * a2) := by grind
  have := n1 _ _ s4 s1; have := mle (B := 1000) (show 0 ≤ -b1 by omega) (show a2 ≤ 1000 by omega); omega
 ·have e2 : a1 * b2 = b2 * a1 := by grind
  have e : a2 * b1 = - (-a2 * b1) := by grind
  have := n1 _ _ s4 s1; have := mle (B := 1000) (show 0 ≤ -a2 by omega) (show b1 ≤ 1000 by omega); omega
 ·have e2 : a1 * b2 = b2 * a1 := by grind
  have e : a2 * b1 = (-a2) * (-b1) := by grind
  have := n1 _ _ s4 s1; have := n2 (-a2) (-b1) (by omega) (by omega); omega
 ·have e2 : a1 * b2 = (-a1) * (-b2) := by grind
  have := n2 _ _ s3 s2; have := mle (B := 1000) (show 0 ≤ -a1 by omega) (show -b2 ≤ 1000 by omega); omega
 ·have e2 : a1 * b2 = (-b2) * (-a1) := by grind
  have e : a2 * b1 = - (a2 * -b1) := by grind
  have := mle (B := 1000) (show 0 ≤ -b2 by omega) (show -a1 ≤ 1000 by omega); have := mle (B := 1000) s3 (show -b1 ≤ 1000 by omega); omega
 ·have e2 : a1 * b2 = (-a1) * (-b2) := by grind
  have e : a2 * b1 = - (b1 * -a2) := by grind
  have := mle (B := 1000) (show 0 ≤ -a1 by omega) (show -b2 ≤ 1000 by omega); have := mle (B := 1000) s2 (show -a2 ≤ 1000 by omega); omega
 ·have e2 : a1 * b2 = (-a1) * (-b2) := by grind
  have e : a2 * b1 = (-a2) * (-b1) := by grind
  have := n2 (-a2) (-b1) (by omega) (by omega); have := mle (B := 1000) (show 0 ≤ -a1 by omega) (show -b2 ≤ 1000 by omega); omega
theorem absI_le {x B : Int} (h1 : x ≤ B) (h2 : -x ≤ B) : absI x ≤ B := by unfold absI; split <;> omega
theorem out_le {n : Nat} {t : List Nat} {p : List Int} {B : Int} (hB : 0 ≤ B) (h : ∀ k, k < p.length → absI (nth p k) ≤ B) (i : Nat) : ∀ K, K ≤ p.length → nth (outN n t p K) i ≤ B
 | 0, _ => by
  have : nth (outN n t p 0) i = 0 := by simp [outN, nth, List.getElem?_replicate]; split <;> rfl
  omega
 | K + 1, hK => by
  simp only [outN]
  rw [nth_set_]
  split
  ·exact h K (by omega)
  ·exact out_le hB h i K (by omega)
theorem putL_le {n : Nat} {t : List Nat} {p : List Int} {B : Int} (n1 : 1 ≤ n) (hl : (putL n t p).length = n) (hB : 0 ≤ B) (h : ∀ k, k < p.length → absI (nth p k) ≤ B) (i : Nat) : nth (putL n t p) i ≤ B := by
 rw [(putL_out n1 hl).1]
 exact out_le hB h i _ (Nat.le_refl _)
theorem exA_rg {l : List Met} (v : VldM l) (u c : Int) (s : Bool) (i : Nat) : -u ≤ exA l u c s i ∧ exA l u c s i ≤ 1000 - u := by
 have := badL_bd v s i
 have e : exA l u c s i = badL (mtl l i) s - u := by simp [exA, spr]
 omega
theorem exC_rg {l : List Met} (v : VldM l) (u c : Int) (s : Bool) (i : Nat) : c - 1000 ≤ exC l u c s i ∧ exC l u c s i ≤ c := by
 have := goodC_bd v s i
 have e : exC l u c s i = c - goodC (mtl l i) s := by simp [exC, spr]
 omega
theorem edg_le {l : List Met} (v : VldM l) {u c : Int} (hu : 0 ≤ u ∧ u ≤ 1000) (hc : 0 ≤ c ∧ c ≤ 1000) {s : Bool} {x : List Int} (h : x ∈ edg l u c s) (i : Nat) : nth x i ≤ 1000000 := by
 obtain ⟨ok, _, hF⟩ := edg_ok v hu hc h
 have hA := exA_rg v u c s
 have hC := exC_rg v u c s
 have hl := ok.len
 rcases hF with ⟨q, hq, rfl⟩ | ⟨b, a, hab, hb, rfl | rfl⟩ | ⟨d, b, a, hab, hbd, hd, rfl⟩
 ·refine putL_le (B := 1000000) v.n1 hl (by decide) (fun k hk => ?_) i
  obtain rfl : k = 0 := by simpa using hk
  decide
 ·refine putL_le (B := 1000000) v.n1 hl (by decide) (two_cases ?_ ?_) i
  ·have := hA a; exact absI_le (by show exA l u c s a ≤ _; omega) (by show - exA l u c s a ≤ _; omega)
  ·have := hA b; exact absI_le (by show - exA l u c s b ≤ _; omega) (by show - - exA l u c s b ≤ _; omega)
 ·refine putL_le (B := 1000000) v.n1 hl (by decide) (two_cases ?_ ?_) i
  ·have := hC a; exact absI_le (by show exC l u c s a ≤ _; omega) (by show - exC l u c s a ≤ _; omega)
  ·have := hC b; exact absI_le (by show - exC l u c s b ≤ _; omega) (by show - - exC l u c s b ≤ _; omega)
 ·have cr : ∀ p q, absI (exA l u c s p * exC l u c s q - exC l u c s p * exA l u c s q) ≤ 1000000 := fun p q => by
   have h1 := cross_le hu hc (hA p) (hA q) (hC p) (hC q)
   have h2 := cross_le hu hc (hA q) (hA p) (hC q) (hC p)
   refine absI_le h1 ?_
   rw [show -(exA l u c s p * exC l u c s q - exC l u c s p * exA l u c s q) = exA l u c s q * exC l u c s p - exC l u c s q * exA l u c s p by grind]
   exact h2
  exact putL_le (B := 1000000) v.n1 hl (by decide) (three_cases (cr b a) (cr a d) (cr d b)) i
theorem edg_vld {l : List Met} (v : VldM l) {u c : Int} (hu : 0 ≤ u ∧ u ≤ 1000) (hc : 0 ≤ c ∧ c ≤ 1000) {s : Bool} {x : List Int} (h : x ∈ edg l u c s) : VldX x l.length :=
 let ok := (edg_ok v hu hc h).1
 ⟨ok.len, fun i => (ok.prt i).1, edg_le v hu hc h, ok.pos⟩
theorem chp_vld {l : List Met} {u c : Int} (hB : chkB l u c = 0) {s : Bool} (h : cheE l u c s = 0) : VldX (chpL l u c s) l.length ∧ psum (chpL l u c s) ≤ 6000000 := by
 obtain ⟨v, hu, hc⟩ := chkB_ok hB
 have vx := edg_vld v hu hc (chp_gx hB h).2
 exact ⟨vx, psum_le v.n6 vx.len vx.le vx.nn⟩
theorem gx_of {l : List Met} {u c : Int} {s : Bool} {x : List Int} (vx : VldX x l.length) (h : isG l u c s x = true) : Gx l u c s x := ⟨vx.len, vx.nn, vx.ps, h⟩
theorem des_of {l : List Met} {u c : Int} (hB : chkB l u c = 0) {s : Bool} {x : List Int} (vx : VldX x l.length) : desE l u c s x = if isG l u c s x = true then 0 else 17 := by
 unfold desE; rw [if_neg (fun h => h hB), if_neg (by rw [mixE_ok.2 vx]; decide)]
theorem gx_des {l : List Met} {u c : Int} (hB : chkB l u c = 0) {s : Bool} {x : List Int} (vx : VldX x l.length) : desE l u c s x = 0 ↔ Gx l u c s x := by
 rw [des_of hB vx]
 constructor
 ·intro h
  by_cases g : isG l u c s x = true
  ·exact gx_of vx g
  ·rw [if_neg g] at h; cases h
 ·intro g; rw [if_pos g.gd]
theorem des_two {l : List Met} {u c : Int} (hB : chkB l u c = 0) (s : Bool) {x : List Int} (vx : VldX x l.length) : desE l u c s x = 0 ∨ desE l u c s x = 17 := by
 rw [des_of hB vx]; split
 ·exact .inl rfl
 ·exact .inr rfl
theorem share_small {n : Nat} (n6 : n ≤ 6) {x : List Int} (vx : VldX x n) {m : Nat} (hm : m < n) : OkS (shN m x) (shD m x) ∧ shN m x ≤ shD m x := by
 have hs := psum_le n6 vx.len vx.le vx.nn
 have hb : nth x m ≤ psum x := by
  unfold psum
  rw [vx.len]
  exact sm_one (fun i _ => vx.nn i) hm
 have h0 := vx.nn m
 obtain ⟨e1, e2, g1⟩ := rat_spec (nth x m) vx.ps
 have k1 := gcd_pos (a := nth x m) vx.ps
 have hd := ratD_bd (a := nth x m) vx.ps
 have hps := vx.ps
 have rc : Int.gcd (ratN (nth x m) (psum x)) (ratD (nth x m) (psum x)) = 1 := Int.gcd_ediv_gcd_ediv_gcd (by omega)
 unfold shN shD
 generalize nth x m = C at *
 generalize psum x = P at *
 have hN : 0 ≤ ratN C P := by unfold ratN; exact Int.ediv_nonneg h0 (by omega)
 have hle : ratN C P ≤ ratD C P := by
  generalize ratN C P = N at *
  generalize ratD C P = D at *
  generalize (Int.gcd C P : Int) = g at *
  rw [e1, e2] at hb
  exact Int.le_of_mul_le_mul_right hb k1
 exact ⟨⟨hN, by omega, hd.1, by omega, rc⟩, hle⟩
theorem she_che {l : List Met} {u c : Int} (hB : chkB l u c = 0) (s : Bool) {m : Nat} (hm : m < l.length) : shE l u c s (m : Int) = cheE l u c s := by
 unfold shE cheE
 have h1 : ¬ inR 0 ((l.length : Int) - 1) (m : Int) = false := by rw [inR_iff.2 ⟨by omega, by omega⟩]; decide
 rw [Bool.not_eq_false] at h1
 simp [hB, h1]
theorem shX_at {l : List Met} {u c : Int} (hB : chkB l u c = 0) {s : Bool} {m : Nat} (hm : m < l.length) (h : cheE l u c s = 0) :
 shX l u c s (m : Int) = [shN m (shLo m (edP l u c s)), shD m (shLo m (edP l u c s)), shN m (shHi m (edP l u c s)), shD m (shHi m (edP l u c s))] := by
 unfold shX
 rw [she_che hB s hm, if_pos h, Int.toNat_natCast]
theorem shX_no {l : List Met} {u c : Int} (hB : chkB l u c = 0) {s : Bool} {m : Nat} (hm : m < l.length) (h : ¬ cheE l u c s = 0) : shX l u c s (m : Int) = [0, 0, 0, 0] := by
 unfold shX
 rw [she_che hB s hm, if_neg h]
structure ShOk (l : List Met) (u c : Int) (s : Bool) (m : Nat) (A B C D : Int) : Prop where
 o1 : OkS A B
 o2 : OkS C D
 le : lessB C D A B = false
 one : ¬ D < C
 lo : ∀ x, Gx l u c s x → lessB (shN m x) (shD m x) A B = false
 hi : ∀ x, Gx l u c s x → lessB C D (shN m x) (shD m x) = false
theorem sh_all {l : List Met} {u c : Int} (hB : chkB l u c = 0) {s : Bool} {m : Nat} (hm : m < l.length) (h : cheE l u c s = 0) :
 ShOk l u c s m (nth (shX l u c s (m : Int)) 0) (nth (shX l u c s (m : Int)) 1) (nth (shX l u c s (m : Int)) 2) (nth (shX l u c s (m : Int)) 3) := by
 rw [shX_at hB hm h]
 obtain ⟨v, hu, hc⟩ := chkB_ok hB
 obtain ⟨⟨i1, h1⟩, i2, h2⟩ := sh_ends hB h hm
 have v1 := edg_vld v hu hc i1
 have v2 := edg_vld v hu hc i2
 have s1 := share_small v.n6 v1 hm
 have s2 := share_small v.n6 v2 hm
 have lo : ∀ x, Gx l u c s x → lessB (shN m x) (shD m x) (shN m (shLo m (edP l u c s))) (shD m (shLo m (edP l u c s))) = false := fun x g => by
  have := rat_lt (p := nth x m) (q := psum x) (r := nth (shLo m (edP l u c s)) m) (s := psum (shLo m (edP l u c s))) g.ps v1.ps
  unfold shN shD
  rw [this, decide_eq_false_iff_not]
  have := h1 x g
  omega
 have hi : ∀ x, Gx l u c s x → lessB (shN m (shHi m (edP l u c s))) (shD m (shHi m (edP l u c s))) (shN m x) (shD m x) = false := fun x g => by
  have := rat_lt (p := nth (shHi m (edP l u c s)) m) (q := psum (shHi m (edP l u c s))) (r := nth x m) (s := psum x) v2.ps g.ps
  unfold shN shD
  rw [this, decide_eq_false_iff_not]
  have := h2 x g
  omega
 exact ⟨s1.1, s2.1, hi _ (edg_gx v hu hc i1), by have := s2.2; change ¬ shD m (shHi m (edP l u c s)) < shN m (shHi m (edP l u c s)); omega, lo, hi⟩
end Go.Proofs.Ytpnfhcnnodolbaa
