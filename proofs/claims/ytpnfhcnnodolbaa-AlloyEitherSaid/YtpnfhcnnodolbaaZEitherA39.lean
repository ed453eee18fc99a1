/- Texts of one proof, laid together: Leq, Min, Dul, Nev, Lbd, Lls, Pfs, Llt, LaE. -/
import Derived.Test.YtpnfhcnnodolbaaZEitherA38
import Derived.Test.YtpnfhcnnodolbaaZY26
import Derived.Test.YtpnfhcnnodolbaaZY10
import Derived.Test.YtpnfhcnnodolbaaZY7
import Derived.Test.YtpnfhcnnodolbaaZY2
import Derived.Test.YtpnfhcnnodolbaaZEitherA34
import Derived.Test.YtpnfhcnnodolbaaZY25
import Derived.Test.YtpnfhcnnodolbaaZY11
import Derived.Test.YtpnfhcnnodolbaaZY4
import Derived.Test.YtpnfhcnnodolbaaZY18
import Derived.Test.YtpnfhcnnodolbaaZY17
import Derived.Test.YtpnfhcnnodolbaaZY16
import Derived.Test.YtpnfhcnnodolbaaZY8
import Derived.Test.YtpnfhcnnodolbaaZEitherA35
import Derived.Test.YtpnfhcnnodolbaaZY12
import Derived.Test.YtpnfhcnnodolbaaZY3
import Derived.Test.YtpnfhcnnodolbaaZEitherA36
import Derived.Test.YtpnfhcnnodolbaaZY22
import Derived.Test.YtpnfhcnnodolbaaZY20
import Derived.Test.YtpnfhcnnodolbaaZY21
import Derived.Test.YtpnfhcnnodolbaaZY9
import Derived.Test.YtpnfhcnnodolbaaZY5
import Derived.Test.YtpnfhcnnodolbaaZY13
import Derived.Test.YtpnfhcnnodolbaaZY19
import Derived.Test.YtpnfhcnnodolbaaZY1
import Derived.Test.YtpnfhcnnodolbaaZY30
import Derived.Test.YtpnfhcnnodolbaaZY28
import Derived.Test.YtpnfhcnnodolbaaZY23
import Derived.Test.YtpnfhcnnodolbaaZY14
import Derived.Test.YtpnfhcnnodolbaaZY27
import Derived.Test.YtpnfhcnnodolbaaZY6
import Derived.Test.YtpnfhcnnodolbaaZY31
import Derived.Test.YtpnfhcnnodolbaaZY29
import Derived.Test.YtpnfhcnnodolbaaZY32
import Derived.Test.YtpnfhcnnodolbaaZY33
import Derived.Test.YtpnfhcnnodolbaaZEitherA37
set_option linter.unusedVariables false
set_option linter.unusedSimpArgs false
set_option linter.unusedSectionVars false
set_option linter.unnecessarySimpa false
set_option maxRecDepth 100000
namespace Go.Proofs.Ytpnfhcnnodolbaa
open Go Go.RowKit Game
theorem edges_zero {l : List Met} (v : VldM l) {u c : Int} (hu : 0 ≤ u ∧ u ≤ 1000) (hc : 0 ≤ c ∧ c ≤ 1000) (s : Bool) : (edP l u c s).length = 0 ↔ (edg l u c s).length = 0 := by
 constructor
 ·intro h
  have h1 := List.eq_nil_of_length_eq_zero h
  refine Classical.byContradiction fun g => ?_
  have := edg_sub v hu hc (s := s) (List.getElem_mem (show 0 < (edg l u c s).length by omega))
  rw [h1] at this; simp at this
 ·intro h
  have h1 := List.eq_nil_of_length_eq_zero h
  refine Classical.byContradiction fun g => ?_
  have := edP_sub v hu hc (s := s) (List.getElem_mem (show 0 < (edP l u c s).length by omega))
  rw [h1] at this; simp at this
theorem che_eq (l : List Met) (u c : Int) (s : Bool) : cheE l u c s = lrE l u c s := by
 unfold cheE lrE
 by_cases g : ¬ chkB l u c = 0
 ·rw [if_pos g, if_pos g]
 ·rw [if_neg g, if_neg g]
  obtain ⟨v, hu, hc⟩ := chkB_ok (Decidable.not_not.1 g)
  have := edges_zero v hu hc s
  by_cases h : (edP l u c s).length = 0
  ·rw [if_pos h, if_pos (this.1 h)]
  ·rw [if_neg h, if_neg (fun h' => h (this.2 h'))]
def exT (l : List Met) (u c : Int) (s : Bool) (i j : Nat) : Int := if j = 0 then - exA l u c s i else - exC l u c s i
structure Gx (l : List Met) (u c : Int) (s : Bool) (x : List Int) : Prop where
 len : x.length = l.length
 nn : ∀ i, 0 ≤ nth x i
 ps : 0 < psum x
 gd : isG l u c s x = true
theorem exT_sum {l : List Met} (u c : Int) (s : Bool) {x : List Int} (hl : x.length = l.length) :
 ag (exT l u c s) l.length (nth x) 0 = u * psum x - ledN l s x l.length ∧ ag (exT l u c s) l.length (nth x) 1 = copN l s x l.length - c * psum x := by
 constructor
 ·have e : ag (exT l u c s) l.length (nth x) 0 = sm l.length (fun i => u * nth x i + (-1) * (nth x i * badL (mtl l i) s)) := sm_congr fun i _ => by simp [exT, exA, spr]; grind
  rw [e, sm_lin (x := nth x) (z := fun i => nth x i * badL (mtl l i) s)]
  unfold ledN psum; rw [hl]; omega
 ·have e : ag (exT l u c s) l.length (nth x) 1 = sm l.length (fun i => (-c) * nth x i + 1 * (nth x i * goodC (mtl l i) s)) := sm_congr fun i _ => by simp [exT, exC, spr]; grind
  rw [e, sm_lin (x := nth x) (z := fun i => nth x i * goodC (mtl l i) s)]
  unfold copN psum; rw [hl, Int.neg_mul]; omega
theorem isG_iff {l : List Met} {u c : Int} {s : Bool} {x : List Int} (hl : x.length = l.length) : isG l u c s x = true ↔ Al (exT l u c s) l.length 2 (nth x) := by
 obtain ⟨a, b⟩ := exT_sum u c s hl
 unfold isG Al
 rw [Bool.and_eq_true, decide_eq_true_eq, decide_eq_true_eq]
 constructor
 ·intro h j hj
  obtain rfl | rfl : j = 0 ∨ j = 1 := by omega
  ·omega
  ·omega
 ·intro h
  have h0 := h 0 (by omega)
  have h1 := h 1 (by omega)
  omega
theorem ab_abs (p : Int) : ab p = absI p := by unfold ab absI; split <;> split <;> omega
theorem sgn2_of {a0 a1 : Int} (h : Gd [a0, a1]) : ((0 ≤ a0 ∧ 0 ≤ a1) ∨ (a0 ≤ 0 ∧ a1 ≤ 0)) ∧ (a0 ≠ 0 ∨ a1 ≠ 0) := by
 obtain ⟨⟨a, ha, hne⟩, hno⟩ := h
 constructor
 ·refine Classical.byContradiction fun hc => hno ?_
  have h1 : a0 < 0 ∨ a1 < 0 := by omega
  have h2 : 0 < a0 ∨ 0 < a1 := by omega
  exact ⟨h1.elim (fun h => ⟨a0, by simp, h⟩) (fun h => ⟨a1, by simp, h⟩), h2.elim (fun h => ⟨a0, by simp, h⟩) (fun h => ⟨a1, by simp, h⟩)⟩
 ·simp at ha; rcases ha with rfl | rfl
  ·exact .inl hne
  ·exact .inr hne
theorem sgn3_of {a0 a1 a2 : Int} (h : Gd [a0, a1, a2]) : ((0 ≤ a0 ∧ 0 ≤ a1 ∧ 0 ≤ a2) ∨ (a0 ≤ 0 ∧ a1 ≤ 0 ∧ a2 ≤ 0)) ∧ (a0 ≠ 0 ∨ a1 ≠ 0 ∨ a2 ≠ 0) := by
 obtain ⟨⟨a, ha, hne⟩, hno⟩ := h
 constructor
 ·refine Classical.byContradiction fun hc => hno ?_
  have h1 : a0 < 0 ∨ a1 < 0 ∨ a2 < 0 := by omega
  have h2 : 0 < a0 ∨ 0 < a1 ∨ 0 < a2 := by omega
  refine ⟨?_, ?_⟩
  ·rcases h1 with h | h | h
   ·exact ⟨a0, by simp, h⟩
   ·exact ⟨a1, by simp, h⟩
   ·exact ⟨a2, by simp, h⟩
  ·rcases h2 with h | h | h
   ·exact ⟨a0, by simp, h⟩
   ·exact ⟨a1, by simp, h⟩
   ·exact ⟨a2, by simp, h⟩
 ·simp at ha; rcases ha with rfl | rfl | rfl
  ·exact .inl hne
  ·exact .inr (.inl hne)
  ·exact .inr (.inr hne)
theorem sgnP2 {p0 p1 : Int} (h : (0 ≤ p0 ∧ 0 ≤ p1) ∨ (p0 ≤ 0 ∧ p1 ≤ 0)) (h2 : p0 ≠ 0 ∨ p1 ≠ 0) : SgnP 2 (nth [p0, p1]) := by
 refine ⟨?_, ?_⟩
 ·rcases h with h | h
  ·exact .inl (two_cases h.1 h.2)
  ·exact .inr (two_cases h.1 h.2)
 ·rcases h2 with h | h
  ·exact ⟨0, by omega, h⟩
  ·exact ⟨1, by omega, h⟩
theorem sgnP3 {p0 p1 p2 : Int} (h : (0 ≤ p0 ∧ 0 ≤ p1 ∧ 0 ≤ p2) ∨ (p0 ≤ 0 ∧ p1 ≤ 0 ∧ p2 ≤ 0)) (h2 : p0 ≠ 0 ∨ p1 ≠ 0 ∨ p2 ≠ 0) : SgnP 3 (nth [p0, p1, p2]) := by
 refine ⟨?_, ?_⟩
 ·rcases h with h | h
  ·exact .inl (three_cases h.1 h.2.1 h.2.2)
  ·exact .inr (three_cases h.1 h.2.1 h.2.2)
 ·rcases h2 with h | h | h
  ·exact ⟨0, by omega, h⟩
  ·exact ⟨1, by omega, h⟩
  ·exact ⟨2, by omega, h⟩
theorem put_eq {n : Nat} {t : List Nat} {p : List Int} (n1 : 1 ≤ n) (hs : SgnP p.length (nth p)) (ht : ∀ k, k < p.length → t.getD k 0 < n) (hd : ∀ j k, j < k → k < p.length → t.getD j 0 ≠ t.getD k 0)
 (e : Nat → Int) (h1 : ∀ k, k < p.length → e (t.getD k 0) = absI (nth p k)) (h2 : ∀ i, (∀ k, k < p.length → t.getD k 0 ≠ i) → e i = 0) : mkL n e = putL n t p := by
 have hl := (putL_iff (t := t) n1).2 hs
 refine list_ext_nth (by rw [mkL_len, hl]) fun i hi => ?_
 rw [mkL_len] at hi
 rw [mkL_nth _ hi, (putL_out n1 hl).1]
 by_cases g : ∃ k, k < p.length ∧ t.getD k 0 = i
 ·obtain ⟨k, hk, rfl⟩ := g
  rw [out_at ht hd _ (Nat.le_refl _) k hk, h1 k hk]
 ·have h3 : ∀ k, k < p.length → t.getD k 0 ≠ i := fun k hk e => g ⟨k, hk, e⟩
  rw [out_else h3 _ (Nat.le_refl _), h2 i h3]
theorem edge_in {l : List Met} (v : VldM l) {u c : Int} {s : Bool} {e : Nat → Int} (he : EdgeA (exT l u c s) l.length e) (hA : Al (exT l u c s) l.length 2 e) : mkL l.length e ∈ edg l u c s := by
 have n1 := v.n1
 have hg : isG l u c s (mkL l.length e) = true := by
  rw [isG_iff (mkL_len _ _)]
  intro j hj
  have := hA j hj
  rw [show ag (exT l u c s) l.length (nth (mkL l.length e)) j = ag (exT l u c s) l.length e j from sm_congr fun i hi => by rw [mkL_nth _ hi]]
  exact this
 refine edg_in ?_ (mkL_len _ _) hg
 rcases he with ⟨a, ha, rfl⟩ | ⟨a, b, j, hab, hb, hj, hGd, rfl⟩ | ⟨a, b, d, hab, hbd, hd, hGd, rfl⟩
 ·refine .inl ⟨a, ha, put_eq n1 (by refine ⟨.inl fun k hk => ?_, 0, by simp, by decide⟩; (have : k = 0 := by simpa using hk); subst this; decide) (fun k hk => ?_) (fun j k hjk hk => ?_) _ (fun k hk => ?_) (fun i hi => ?_)⟩
  ·have : k = 0 := by simpa using hk
   subst this; simpa using ha
  ·simp at hk; omega
  ·have : k = 0 := by simpa using hk
   subst this; simp [put, ab, absI, nth]
  ·have := hi 0 (by simp)
   simp only [List.getD_cons_zero] at this
   simp only [List.map, put, if_neg (Ne.symm this)]
 ·obtain ⟨h1, h2⟩ := sgn2_of hGd
  have hne : ¬ b = a := by omega
  have main : ∀ X : Nat → Int, (∀ i, exT l u c s i j = - X i) → mkL l.length (put [a, b] ([exT l u c s b j, - exT l u c s a j].map ab)) = putL l.length [b, a] [X a, - X b] := fun X hX => by
   rw [hX, hX] at h1 h2 ⊢
   refine put_eq (p := [X a, - X b]) n1 (sgnP2 (by omega) (by omega)) (fun k hk => ?_) (fun j k hjk hk => ?_) _ (fun k hk => ?_) (fun i hi => ?_)
   ·rcases k with _ | _ | k <;> simp at hk ⊢ <;> omega
   ·rcases k with _ | _ | k
    ·omega
    ·obtain rfl : j = 0 := by omega
     simp; omega
    ·simp at hk; omega
   ·rcases k with _ | _ | k
    ·simp only [List.getD_cons_zero, List.map, put, if_neg hne, if_true, nth_zero, ab_abs, Int.neg_neg]
    ·simp only [List.getD_cons_zero, List.getD_cons_succ, List.map, put, if_true, nth_succ, nth_zero, ab_abs]
    ·simp at hk; omega
   ·have i0 := hi 0 (by simp)
    have i1 := hi 1 (by simp)
    simp only [List.getD_cons_zero, List.getD_cons_succ] at i0 i1
    simp only [List.map, put, if_neg (Ne.symm i1), if_neg (Ne.symm i0)]
  refine .inr (.inl ⟨b, a, hab, hb, ?_⟩)
  obtain rfl | rfl : j = 0 ∨ j = 1 := by omega
  ·exact .inl (main (exA l u c s) fun i => by simp [exT])
  ·exact .inr (main (exC l u c s) fun i => by simp [exT])
 ·obtain ⟨h1, h2⟩ := sgn3_of hGd
  have hba : ¬ b = a := by omega
  have hda : ¬ d = a := by omega
  have hdb : ¬ d = b := by omega
  refine .inr (.inr ⟨d, b, a, hab, hbd, hd, ?_⟩)
  have hX : ∀ i, exT l u c s i 0 = - exA l u c s i := fun i => by simp [exT]
  have hY : ∀ i, exT l u c s i 1 = - exC l u c s i := fun i => by simp [exT]
  generalize hp0 : exT l u c s b 0 * exT l u c s d 1 - exT l u c s b 1 * exT l u c s d 0 = g0 at h1 h2 ⊢
  generalize hp1 : exT l u c s d 0 * exT l u c s a 1 - exT l u c s d 1 * exT l u c s a 0 = g1 at h1 h2 ⊢
  generalize hp2 : exT l u c s a 0 * exT l u c s b 1 - exT l u c s a 1 * exT l u c s b 0 = g2 at h1 h2 ⊢
  rw [hX, hX, hY, hY] at hp0 hp1 hp2
  have q0 : exA l u c s b * exC l u c s a - exC l u c s b * exA l u c s a = - g2 := by grind
  have q1 : exA l u c s a * exC l u c s d - exC l u c s a * exA l u c s d = - g1 := by grind
  have q2 : exA l u c s d * exC l u c s b - exC l u c s d * exA l u c s b = - g0 := by grind
  rw [q0, q1, q2]
  refine put_eq (p := [- g2, - g1, - g0]) n1 (sgnP3 (by omega) (by omega)) (fun k hk => ?_) (fun j k hjk hk => ?_) _ (fun k hk => ?_) (fun i hi => ?_)
  ·rcases k with _ | _ | _ | k <;> simp at hk ⊢ <;> omega
  ·rcases k with _ | _ | _ | k
   ·omega
   ·obtain rfl : j = 0 := by omega
    simp; omega
   ·have : j = 0 ∨ j = 1 := by omega
    rcases this with rfl | rfl <;> simp <;> omega
   ·simp at hk; omega
  ·rcases k with _ | _ | _ | k
   ·simp only [List.getD_cons_zero, List.map, put, if_neg hda, if_neg hdb, if_true, nth_zero, ab_abs, absI_neg]
   ·simp only [List.getD_cons_zero, List.getD_cons_succ, List.map, put, if_neg hba, if_true, nth_succ, nth_zero, ab_abs, absI_neg]
   ·simp only [List.getD_cons_zero, List.getD_cons_succ, List.map, put, if_true, nth_succ, nth_zero, ab_abs, absI_neg]
   ·simp at hk; omega
  ·have i0 := hi 0 (by simp)
   have i1 := hi 1 (by simp)
   have i2 := hi 2 (by simp)
   simp only [List.getD_cons_zero, List.getD_cons_succ] at i0 i1 i2
   simp only [List.map, put, if_neg (Ne.symm i2), if_neg (Ne.symm i1), if_neg (Ne.symm i0)]
def fsm (l : List Met) (f : Nat → Int) (x : List Int) : Int := sm l.length fun i => nth x i * f i
theorem edge_min {l : List Met} (v : VldM l) {u c : Int} {s : Bool} (f : Nat → Int) {x : List Int} (g : Gx l u c s x) : ∃ y, y ∈ edg l u c s ∧ fsm l f y * psum x ≤ fsm l f x * psum y := by
 have hx : Pl l.length (nth x) := ⟨fun i _ => g.nn i, by have := g.ps; unfold psum at this; rw [g.len] at this; exact this⟩
 obtain ⟨e, he, hp, hA, hle⟩ := edge_le f hx ((isG_iff g.len).1 g.gd)
 refine ⟨mkL l.length e, edge_in v he hA, ?_⟩
 have e1 : fsm l f (mkL l.length e) = co f l.length e := sm_congr fun i hi => by rw [mkL_nth _ hi]
 have e2 : psum (mkL l.length e) = sm l.length e := by unfold psum; rw [mkL_len]; exact sm_congr fun i hi => by rw [mkL_nth _ hi]
 have e3 : psum x = sm l.length (nth x) := by unfold psum; rw [g.len]
 rw [e1, e2, e3]
 exact hle
theorem edg_gx {l : List Met} (v : VldM l) {u c : Int} (hu : 0 ≤ u ∧ u ≤ 1000) (hc : 0 ≤ c ∧ c ≤ 1000) {s : Bool} {x : List Int} (h : x ∈ edg l u c s) : Gx l u c s x := by
 obtain ⟨a, b, _⟩ := edg_ok v hu hc h
 exact ⟨a.len, fun i => (a.prt i).1, a.pos, b⟩
theorem gx_che {l : List Met} {u c : Int} (hB : chkB l u c = 0) (s : Bool) : cheE l u c s = 0 ↔ ∃ x, Gx l u c s x := by
 obtain ⟨v, hu, hc⟩ := chkB_ok hB
 rw [che_eq]
 unfold lrE
 rw [if_neg (fun h => h hB)]
 constructor
 ·intro h
  have h0 : 0 < (edg l u c s).length := by
   refine Classical.byContradiction fun g => ?_
   rw [if_pos (by omega)] at h; cases h
  exact ⟨_, edg_gx v hu hc (List.getElem_mem h0)⟩
 ·rintro ⟨x, g⟩
  obtain ⟨y, hy, _⟩ := edge_min v (fun _ => 0) g
  have : (edg l u c s).length ≠ 0 := fun e => by
   have := List.eq_nil_of_length_eq_zero e
   rw [this] at hy; simp at hy
  rw [if_neg this]
theorem che_two {l : List Met} {u c : Int} (hB : chkB l u c = 0) (s : Bool) : cheE l u c s = 0 ∨ cheE l u c s = 17 := by
 unfold cheE
 rw [if_neg (fun h => h hB)]
 split
 ·exact .inr rfl
 ·exact .inl rfl
theorem che_pos {l : List Met} {u c : Int} (hB : chkB l u c = 0) {s : Bool} (h : cheE l u c s = 0) : 0 < (edP l u c s).length := by
 refine Classical.byContradiction fun g => ?_
 unfold cheE at h
 rw [if_neg (fun h' => h' hB), if_pos (by omega)] at h; cases h
theorem chp_gx {l : List Met} {u c : Int} (hB : chkB l u c = 0) {s : Bool} (h : cheE l u c s = 0) : Gx l u c s (chpL l u c s) ∧ chpL l u c s ∈ edg l u c s := by
 obtain ⟨v, hu, hc⟩ := chkB_ok hB
 have := edP_sub v hu hc (chp_mem (che_pos hB h))
 exact ⟨edg_gx v hu hc this, this⟩
theorem hld_at {l : List Met} {s : Bool} {d b le co : Int} : hld l s d b le co = true ↔ ∀ k, k < l.length → b - le * badL (mtl l k) s + co * goodC (mtl l k) s ≤ d * (mtl l k).p := by
 unfold hld
 rw [hldN_iff]
 simp only [hldM, decide_eq_true_eq]
theorem weak_val {l : List Met} {u c : Int} {s : Bool} {d b le co : Int} (h : hld l s d b le co = true) (h1 : 0 ≤ le) (h2 : 0 ≤ co) {x : List Int} (g : Gx l u c s x) :
 valP u c b le co * psum x ≤ d * costN l x l.length := by
 rw [hld_at] at h
 have hg := g.gd
 unfold isG at hg
 rw [Bool.and_eq_true, decide_eq_true_eq, decide_eq_true_eq] at hg
 obtain ⟨g1, g2⟩ := hg
 have e1 : psum x = sm l.length (nth x) := by unfold psum; rw [g.len]
 have k1 := Int.mul_le_mul_of_nonneg_left g1 h1
 have k2 := Int.mul_le_mul_of_nonneg_left g2 h2
 have k3 : sm l.length (fun i => nth x i * (b - le * badL (mtl l i) s + co * goodC (mtl l i) s)) ≤ sm l.length (fun i => nth x i * (d * (mtl l i).p)) := sm_le fun i hi => Int.mul_le_mul_of_nonneg_left (h i hi) (g.nn i)
 have e2 : sm l.length (fun i => nth x i * (d * (mtl l i).p)) = d * costN l x l.length := by
  unfold costN; rw [← sm_mul]; exact sm_congr fun i _ => by grind
 have e3 : sm l.length (fun i => nth x i * (b - le * badL (mtl l i) s + co * goodC (mtl l i) s)) = b * psum x + (-le) * ledN l s x l.length + co * copN l s x l.length := by
  rw [e1]; unfold ledN copN
  rw [← sm_mul, ← sm_mul, ← sm_mul, ← sm_add, ← sm_add]
  exact sm_congr fun i _ => by grind
 rw [e2, e3] at k3
 unfold valP
 have e4 : (b - le * u + co * c) * psum x = b * psum x - le * (u * psum x) + co * (c * psum x) := by grind
 rw [e4]
 rw [Int.neg_mul] at k3
 omega
def gS (l : List Met) (s : Bool) (i r : Nat) : Int := if i < l.length then rwN l s i r else - rwN l s i r
def vS (u c : Int) (i r : Nat) : Int := if r = 0 then 1 else if r = 1 then - u else c
theorem vS_at (u c : Int) (y : Nat → Int) : sd (vS u c) 0 y = y 0 - u * y 1 + c * y 2 := by unfold sd vS; simp; grind
theorem gS_sg (l : List Met) (s : Bool) (i : Nat) : ∃ σ : Int, (σ = 1 ∨ σ = -1) ∧ ∀ r, gS l s i r = σ * rwN l s i r := by
 by_cases g : i < l.length
 ·exact ⟨1, .inl rfl, fun r => by unfold gS; rw [if_pos g]; omega⟩
 ·exact ⟨-1, .inr rfl, fun r => by unfold gS; rw [if_neg g]; omega⟩
theorem sd_lo {l : List Met} {s : Bool} {i : Nat} (h : i < l.length) (y : Nat → Int) : sd (gS l s) i y = y 0 - badL (mtl l i) s * y 1 + goodC (mtl l i) s * y 2 := by
 unfold sd gS
 simp only [if_pos h]
 simp [rwN, h, rwM]; grind
theorem sd_n1 (l : List Met) (s : Bool) (y : Nat → Int) : sd (gS l s) l.length y = - y 1 := by
 unfold sd gS; simp [rwN]
theorem sd_n2 (l : List Met) (s : Bool) (y : Nat → Int) : sd (gS l s) (l.length + 1) y = - y 2 := by
 have h : ¬ l.length + 1 < l.length := by omega
 unfold sd gS; simp [rwN, h]
theorem gS_span {l : List Met} (v : VldM l) (s : Bool) : ∀ z : Nat → Int, (∃ j, j < 3 ∧ z j ≠ 0) → ∃ i, i < l.length + 2 ∧ sd (gS l s) i z ≠ 0 := by
 rintro z ⟨j, hj, hz⟩
 refine Classical.byContradiction fun hno => ?_
 have h0 : ∀ i, i < l.length + 2 → sd (gS l s) i z = 0 := fun i hi => Classical.byContradiction fun e => hno ⟨i, hi, e⟩
 have n1 := v.n1
 have a1 := h0 l.length (by omega)
 have a2 := h0 (l.length + 1) (by omega)
 have a0 := h0 0 (by omega)
 rw [sd_n1] at a1
 rw [sd_n2] at a2
 rw [sd_lo (by omega), show z 1 = 0 by omega, show z 2 = 0 by omega] at a0
 obtain rfl | rfl | rfl : j = 0 ∨ j = 1 ∨ j = 2 := by omega
 ·simp at a0; exact hz a0
 ·omega
 ·omega
theorem sd_rw0 {l : List Met} {s : Bool} {i : Nat} {y : Nat → Int} (h : sd (gS l s) i y = 0) : sd (rwN l s) i y = 0 := by
 by_cases g : i < l.length
 ·have e : sd (gS l s) i y = sd (rwN l s) i y := by unfold sd gS; simp only [if_pos g]
  rw [← e]; exact h
 ·have e : sd (gS l s) i y = - sd (rwN l s) i y := by unfold sd gS; simp only [if_neg g]; grind
  omega
theorem gdP_iff {l : List Met} {s : Bool} {x : List Int} : gdP l s x = true ↔ 0 ≤ nth x 2 ∧ 0 ≤ nth x 3 ∧ hld l s (nth x 0) (nth x 1) (nth x 2) (nth x 3) = true := by
 unfold gdP; rw [Bool.and_eq_true, Bool.and_eq_true, decide_eq_true_eq, decide_eq_true_eq]
theorem dual_y {l : List Met} (v : VldM l) {u c : Int} {s : Bool} {p : Nat → Int} {N D : Int} (hD : 0 ≤ D) (h : ∀ x, Gx l u c s x → N * psum x ≤ fsm l p x * D) :
 ∃ (y : Nat → Int) (Q : Int), 0 < Q ∧ 0 ≤ y 1 ∧ 0 ≤ y 2 ∧ (∀ i, i < l.length → y 0 - badL (mtl l i) s * y 1 + goodC (mtl l i) s * y 2 ≤ p i * (D * Q)) ∧ y 0 - u * y 1 + c * y 2 = N * Q := by
 obtain ⟨P, M, Q, hQ, hP, hM, hb⟩ := dual_pt (A := exT l u c s) (m := l.length) (c := p) (N := N) (D := D) fun x hx hA => by
  have e1 : sm l.length (nth (mkL l.length x)) = sm l.length x := sm_congr fun i hi => by rw [mkL_nth _ hi]
  have e2 : psum (mkL l.length x) = sm l.length x := by unfold psum; rw [mkL_len]; exact e1
  have e3 : fsm l p (mkL l.length x) = co p l.length x := sm_congr fun i hi => by rw [mkL_nth _ hi]
  have e4 : ∀ j, ag (exT l u c s) l.length (nth (mkL l.length x)) j = ag (exT l u c s) l.length x j := fun j => sm_congr fun i hi => by rw [mkL_nth _ hi]
  have := h (mkL l.length x) ⟨mkL_len _ _, fun i => by
   rcases Nat.lt_or_ge i l.length with g | g
   ·rw [mkL_nth _ g]; exact hx.nn i g
   ·rw [nth_mkL_out g]; omega, by rw [e2]; exact hx.ps, (isG_iff (mkL_len _ _)).2 fun j hj => by rw [e4]; exact hA j hj⟩
  rw [e2, e3] at this
  exact this
 refine ⟨fun j => if j = 0 then N * Q + u * P - c * M else if j = 1 then P else M, Q, hQ, by simpa using hP, by simpa using hM, fun i hi => ?_, by simp; omega⟩
 have := hb i hi
 simp only [exT, exA, exC, spr] at this
 simp at this ⊢
 have e : N * Q + u * P - c * M - badL (mtl l i) s * P + goodC (mtl l i) s * M - p i * (D * Q) = (-(badL (mtl l i) s - u)) * P + (-(c - goodC (mtl l i) s)) * M - (p i * D - N) * Q := by grind
 have e5 : (-(badL (mtl l i) s - u)) * P + (-(c - goodC (mtl l i) s)) * M = (u - badL (mtl l i) s) * P + (goodC (mtl l i) s - c) * M := by grind
 omega
theorem stN_mono {l : List Met} {u c : Int} {s : Bool} {i k j : Nat} {L : PL} {x : List Int} (h : x ∈ L.map Prod.fst) : x ∈ (stN l u c s i k j L).map Prod.fst := by
 unfold stN; split
 ·exact putP_mem.2 (.inl h)
 ·exact h
theorem N3_mono {l : List Met} {u c : Int} {s : Bool} {i k : Nat} {L : PL} {x : List Int} (h : x ∈ L.map Prod.fst) : ∀ j, x ∈ (N3 l u c s i k j L).map Prod.fst
 | 0 => h
 | j + 1 => stN_mono (N3_mono h j)
theorem N2_mono {l : List Met} {u c : Int} {s : Bool} {i : Nat} {L : PL} {x : List Int} (h : x ∈ L.map Prod.fst) : ∀ k, x ∈ (N2 l u c s i k L).map Prod.fst
 | 0 => h
 | k + 1 => N3_mono (N2_mono h k) _
theorem N3_in {l : List Met} {u c : Int} {s : Bool} {i k q : Nat} {L : PL} (hd : 0 < valU u c (nvK l s i k q)) : ∀ {K}, q < K → nvK l s i k q ∈ (N3 l u c s i k K L).map Prod.fst
 | K + 1, hj => by
  by_cases e : q = K
  ·subst e
   simp only [N3, stN, if_pos hd]
   exact putP_mem.2 (.inr rfl)
  ·exact stN_mono (N3_in hd (by omega))
theorem N2_in {l : List Met} {u c : Int} {s : Bool} {i k q : Nat} {L : PL} (hd : 0 < valU u c (nvK l s i k q)) (hj : q < 2) : ∀ {K}, k < K → nvK l s i k q ∈ (N2 l u c s i K L).map Prod.fst
 | K + 1, hk => by
  by_cases e : k = K
  ·subst e
   exact N3_in hd hj
  ·exact N3_mono (N2_in hd hj (by omega)) _
theorem N1_in {l : List Met} {u c : Int} {s : Bool} {i k q : Nat} (hd : 0 < valU u c (nvK l s i k q)) (hj : q < 2) (hk : k < i) : ∀ {K}, i < K → nvK l s i k q ∈ (N1 l u c s K).map Prod.fst
 | K + 1, hi => by
  by_cases e : i = K
  ·subst e
   exact N2_in hd hj hk
  ·exact N2_mono (N1_in hd hj hk (by omega)) _
def GN (u c : Int) (x : List Int) : Prop := BdK x ∧ nth x 0 = 0 ∧ 0 < valU u c x
theorem stN_gn {l : List Met} (v : VldM l) (u c : Int) (s : Bool) (i k j : Nat) {L : PL} (h : PutL (GN u c) L) : PutL (GN u c) (stN l u c s i k j L) := by
 unfold stN
 split
 ·rename_i g
  exact h.put ⟨(nvK_ok v s i k j).2, by simp [nvK, nth], g⟩
 ·exact h
theorem N3_gn {l : List Met} (v : VldM l) (u c : Int) (s : Bool) (i k : Nat) : ∀ (j : Nat) {L : PL}, PutL (GN u c) L → PutL (GN u c) (N3 l u c s i k j L)
 | 0, _, h => h
 | j + 1, _, h => stN_gn v u c s i k j (N3_gn v u c s i k j h)
theorem N2_gn {l : List Met} (v : VldM l) (u c : Int) (s : Bool) (i : Nat) : ∀ (k : Nat) {L : PL}, PutL (GN u c) L → PutL (GN u c) (N2 l u c s i k L)
 | 0, _, h => h
 | k + 1, _, h => N3_gn v u c s i k 2 (N2_gn v u c s i k h)
theorem N1_gn {l : List Met} (v : VldM l) (u c : Int) (s : Bool) : ∀ i, PutL (GN u c) (N1 l u c s i)
 | 0 => PutL.nil _
 | i + 1 => N2_gn v u c s i i (N1_gn v u c s i)
theorem nvL_gn {l : List Met} (v : VldM l) {u c : Int} {s : Bool} {p : List Int × Int} (h : p ∈ nvL l u c s) : GN u c p.1 ∧ gdP l s p.1 = true := by
 have := List.mem_filter.1 h
 exact ⟨(N1_gn v u c s _).good p this.1, this.2⟩
theorem cr_sw (g : Nat → Nat → Int) (i k n : Nat) : cr g k i n = - cr g i k n := by unfold cr; repeat' split
                                                                                    all_goals grind
theorem crs_cr (l : List Met) (s : Bool) (i k n : Nat) : crs (rwN l s i) (rwN l s k) n = cr (rwN l s) i k n := by unfold crs cr; rfl
theorem cr_ne {l : List Met} {s : Bool} {i k n : Nat} (h : cr (gS l s) i k n ≠ 0) : cr (rwN l s) i k n ≠ 0 := by
 intro e
 refine h ?_
 obtain ⟨a, _, ha⟩ := gS_sg l s i
 obtain ⟨b, _, hb⟩ := gS_sg l s k
 have : cr (gS l s) i k n = a * b * cr (rwN l s) i k n := by unfold cr; simp only [ha, hb]; repeat' split
                                                             all_goals grind
 rw [this, e, Int.mul_zero]
set_option maxHeartbeats 1000000 in
theorem nev_some {l : List Met} {u c : Int} (hB : chkB l u c = 0) {s : Bool} (h : ¬ cheE l u c s = 0) : nvL l u c s ≠ [] := by
 obtain ⟨v, hu, hc⟩ := chkB_ok hB
 have hno : ∀ x, ¬ Gx l u c s x := fun x g => h ((gx_che hB s).2 ⟨x, g⟩)
 obtain ⟨y, Q, hQ, hy1, hy2, hin, hval⟩ := dual_y v (p := fun _ => 0) (N := 1) (D := 1) (by decide) fun x g => absurd g (hno x)
 obtain ⟨y', i, k, hin', hv', hi, hk, ti, tk, hcr⟩ := ray (g := gS l s) (K := l.length + 2) (vS u c) (gS_span v s) _ y rfl
  (fun i hi => by
   by_cases g : i < l.length
   ·rw [sd_lo g]; have := hin i g; omega
   ·obtain rfl | rfl : i = l.length ∨ i = l.length + 1 := by omega
    ·rw [sd_n1]; omega
    ·rw [sd_n2]; omega)
  (by rw [vS_at, hval]; omega)
 rw [vS_at] at hv'
 obtain ⟨m, hm, hcm⟩ := hcr
 replace hcm := cr_ne hcm
 -- in order
 obtain ⟨i, k, hki, hi, hk, ti, tk, hcm⟩ : ∃ i k, k < i ∧ i < l.length + 2 ∧ k < l.length + 2 ∧ sd (rwN l s) i y' = 0 ∧ sd (rwN l s) k y' = 0 ∧ cr (rwN l s) i k m ≠ 0 := by
  rcases Nat.lt_trichotomy i k with g | g | g
  ·exact ⟨k, i, g, hk, hi, sd_rw0 tk, sd_rw0 ti, by rw [cr_sw]; omega⟩
  ·subst g
   have := cr_sw (rwN l s) i i m
   omega
  ·exact ⟨i, k, g, hi, hk, sd_rw0 ti, sd_rw0 tk, hcm⟩
 obtain ⟨p1, p2, p3⟩ := ray_par ti tk
 have hpar : ∀ n, n < 3 → y' m * cr (rwN l s) i k n = y' n * cr (rwN l s) i k m := fun n hn => by
  obtain rfl | rfl | rfl : m = 0 ∨ m = 1 ∨ m = 2 := by omega
  all_goals obtain rfl | rfl | rfl : n = 0 ∨ n = 1 ∨ n = 2 := by omega
  all_goals first | rfl | assumption | (exact p1.symm) | (exact p2.symm) | (exact p3.symm)
 have hym : y' m ≠ 0 := fun e => by
  have h0 : ∀ n, n < 3 → y' n = 0 := fun n hn => by
   have := hpar n hn
   rw [e, Int.zero_mul] at this
   rcases Int.mul_eq_zero.1 this.symm with h' | h'
   ·exact h'
   ·exact absurd h' hcm
  rw [h0 0 (by omega), h0 1 (by omega), h0 2 (by omega)] at hv'
  simp at hv'
 -- the way
 obtain ⟨q, τ, hq, hτ, hsg⟩ : ∃ (q : Nat) (τ : Int), q < 2 ∧ (τ = if q = 0 then 1 else -1) ∧ 0 < y' m * (τ * cr (rwN l s) i k m) := by
  have hne : y' m * cr (rwN l s) i k m ≠ 0 := fun e => by rcases Int.mul_eq_zero.1 e with h' | h' <;> omega
  rcases Int.lt_or_gt_of_ne hne with g | g
  ·exact ⟨1, -1, by omega, rfl, by rw [show y' m * (-1 * cr (rwN l s) i k m) = -(y' m * cr (rwN l s) i k m) by grind]; omega⟩
  ·exact ⟨0, 1, by omega, rfl, by rw [Int.one_mul]; omega⟩
 have e0 : nth (nvK l s i k q) 0 = 0 := by simp [nvK, nth]
 have e1 : nth (nvK l s i k q) 1 = τ * cr (rwN l s) i k 0 := by simp only [nvK, crs_cr, ← hτ]; simp [nth]
 have e2 : nth (nvK l s i k q) 2 = τ * cr (rwN l s) i k 1 := by simp only [nvK, crs_cr, ← hτ]; simp [nth]
 have e3 : nth (nvK l s i k q) 3 = τ * cr (rwN l s) i k 2 := by simp only [nvK, crs_cr, ← hτ]; simp [nth]
 have q0 := hpar 0 (by omega)
 have q1 := hpar 1 (by omega)
 have q2 := hpar 2 (by omega)
 have s1 := hin' l.length (by omega)
 have s2 := hin' (l.length + 1) (by omega)
 rw [sd_n1] at s1
 rw [sd_n2] at s2
 have hval2 : y' m * y' m * valU u c (nvK l s i k q) = (y' m * (τ * cr (rwN l s) i k m)) * (y' 0 - u * y' 1 + c * y' 2) := by
  unfold valU
  rw [e1, e2, e3]
  have : y' m * y' m * (τ * cr (rwN l s) i k 0 - τ * cr (rwN l s) i k 1 * u + τ * cr (rwN l s) i k 2 * c) = y' m * τ * (y' m * cr (rwN l s) i k 0) - y' m * τ * (y' m * cr (rwN l s) i k 1) * u + y' m * τ * (y' m * cr (rwN l s) i k 2) * c := by grind
  rw [this, q0, q1, q2]; grind
 have hsq : 0 < y' m * y' m := by
  rcases Int.lt_or_gt_of_ne hym with g | g
  ·exact Int.mul_pos_of_neg_of_neg g g
  ·exact Int.mul_pos g g
 have hv2 : 0 < valU u c (nvK l s i k q) := by
  have := Int.mul_pos hsg hv'
  rw [← hval2] at this
  exact Int.lt_of_mul_lt_mul_left (a := y' m * y' m) (by rw [Int.mul_zero]; exact this) (Int.le_of_lt hsq)
 have pos : ∀ (a b : Int), y' m * y' m * a = (y' m * (τ * cr (rwN l s) i k m)) * b → 0 ≤ b → 0 ≤ a := fun a b e hb => by
  have := Int.mul_nonneg (Int.le_of_lt hsg) hb
  rw [← e] at this
  exact Int.nonneg_of_mul_nonneg_right this hsq
 have hg : gdP l s (nvK l s i k q) = true := gdP_iff.2 ⟨by
  rw [e2]
  refine pos _ (y' 1) ?_ (by omega)
  have : y' m * y' m * (τ * cr (rwN l s) i k 1) = y' m * τ * (y' m * cr (rwN l s) i k 1) := by grind
  rw [this, q1]; grind, by
  rw [e3]
  refine pos _ (y' 2) ?_ (by omega)
  have : y' m * y' m * (τ * cr (rwN l s) i k 2) = y' m * τ * (y' m * cr (rwN l s) i k 2) := by grind
  rw [this, q2]; grind, hld_at.2 fun j hj => by
  have h1 := hin' j (by omega)
  rw [sd_lo hj] at h1
  rw [e0, e1, e2, e3, Int.zero_mul]
  have := pos (-(τ * cr (rwN l s) i k 0 - τ * cr (rwN l s) i k 1 * badL (mtl l j) s + τ * cr (rwN l s) i k 2 * goodC (mtl l j) s)) (-(y' 0 - badL (mtl l j) s * y' 1 + goodC (mtl l j) s * y' 2)) (by
   have : y' m * y' m * (-(τ * cr (rwN l s) i k 0 - τ * cr (rwN l s) i k 1 * badL (mtl l j) s + τ * cr (rwN l s) i k 2 * goodC (mtl l j) s)) = -(y' m * τ * (y' m * cr (rwN l s) i k 0) - y' m * τ * (y' m * cr (rwN l s) i k 1) * badL (mtl l j) s + y' m * τ * (y' m * cr (rwN l s) i k 2) * goodC (mtl l j) s) := by grind
   rw [this, q0, q1, q2]; grind) (by omega)
  omega⟩
 have hmem := N1_in hv2 hq hki hi
 obtain ⟨p, hp, e⟩ := List.mem_map.1 hmem
 intro hnil
 have : p ∈ nvL l u c s := List.mem_filter.2 ⟨hp, by rw [e]; exact hg⟩
 rw [hnil] at this
 simp at this
theorem bdK_pf {x : List Int} (h : BdK x) (h1 : 0 ≤ nth x 2) (h2 : 0 ≤ nth x 3) : isPf (nth x 1) (nth x 2) (nth x 3) = true := by
 obtain ⟨_, a, b, c⟩ := h
 exact isPf_iff.2 ⟨a, ⟨h1, b.2⟩, h2, c.2⟩
theorem nvr_no {l : List Met} {u c : Int} {s : Bool} {d b le co : Int} (h : nvrE l u c s d b le co = 0) : chkB l u c = 0 ∧ ∀ x, ¬ Gx l u c s x := by
 unfold nvrE at h
 by_cases g : ¬ chkB l u c = 0
 ·rw [if_pos g] at h; exact absurd h g
 rw [if_neg g] at h
 by_cases g1 : d = 0 ∧ isPf b le co = true
 ·rw [if_neg (fun e => e g1)] at h
  by_cases g2 : hld l s d b le co = true ∧ 0 < valP u c b le co
  ·refine ⟨Decidable.not_not.1 g, fun x gx => ?_⟩
   obtain ⟨p1, p2, p3⟩ := isPf_iff.1 g1.2
   have w := weak_val g2.1 p2.1 p3.1 gx
   rw [g1.1, Int.zero_mul] at w
   have := Int.mul_pos g2.2 gx.ps
   omega
  ·rw [if_neg g2] at h; cases h
 ·rw [if_pos g1] at h; cases h
theorem nv_spec {l : List Met} {u c : Int} (hB : chkB l u c = 0) (s : Bool) :
 (cheE l u c s = 0 → nvEr l u c s = 5 ∧ nvX l u c s = [0, 0, 0, 0]) ∧
 (¬ cheE l u c s = 0 → nvEr l u c s = 0 ∧ nvrE l u c s (nth (nvX l u c s) 0) (nth (nvX l u c s) 1) (nth (nvX l u c s) 2) (nth (nvX l u c s) 3) = 0) := by
 obtain ⟨v, hu, hc⟩ := chkB_ok hB
 have key : ∀ p ∈ nvL l u c s, nvrE l u c s (nth p.1 0) (nth p.1 1) (nth p.1 2) (nth p.1 3) = 0 := fun p hp => by
  obtain ⟨⟨b1, b2, b3⟩, hg⟩ := nvL_gn v hp
  obtain ⟨g1, g2, g3⟩ := gdP_iff.1 hg
  unfold nvrE
  rw [if_neg (fun e => e hB), if_neg (fun e => e ⟨b2, bdK_pf b1 g1 g2⟩), if_pos ⟨g3, b3⟩]
 unfold nvEr nvX
 rw [if_pos hB, if_pos hB]
 constructor
 ·intro h
  obtain ⟨x, gx⟩ := (gx_che hB s).1 h
  have : nvL l u c s = [] := by
   refine Classical.byContradiction fun hne => ?_
   obtain ⟨p, t, e⟩ := List.exists_cons_of_ne_nil hne
   exact (nvr_no (key p (by rw [e]; simp))).2 x gx
  rw [this]; exact ⟨rfl, rfl⟩
 ·intro h
  have hne := nev_some hB h
  obtain ⟨p, t, e⟩ := List.exists_cons_of_ne_nil hne
  have := key p (by rw [e]; simp)
  rw [e]
  exact ⟨rfl, this⟩
theorem mle {p q B : Int} (hp : 0 ≤ p) (hq : q ≤ B) : p * q ≤ B * p := by
 have := Int.mul_le_mul_of_nonneg_left hq hp
 rw [Int.mul_comm B p]; exact this
theorem cross_le {u c a1 b1 a2 b2 : Int} (hu : 0 ≤ u ∧ u ≤ 1000) (hc : 0 ≤ c ∧ c ≤ 1000) (h1 : -u ≤ a1 ∧ a1 ≤ 1000 - u) (h2 : -u ≤ b1 ∧ b1 ≤ 1000 - u) (h3 : c - 1000 ≤ a2 ∧ a2 ≤ c) (h4 : c - 1000 ≤ b2 ∧ b2 ≤ c) : a1 * b2 - a2 * b1 ≤ 1000000 := by
 have n1 : ∀ p q : Int, 0 ≤ p → q ≤ 0 → p * q ≤ 0 := fun p q hp hq => Int.mul_nonpos_of_nonneg_of_nonpos hp hq
 have n2 : ∀ p q : Int, 0 ≤ p → 0 ≤ q → 0 ≤ p * q := fun p q hp hq => Int.mul_nonneg hp hq
 rcases Int.le_total 0 a1 with s1 | s1 <;> rcases Int.le_total 0 b2 with s4 | s4 <;> rcases Int.le_total 0 a2 with s3 | s3 <;> rcases Int.le_total 0 b1 with s2 | s2
 ·have := n2 _ _ s3 s2; have := mle (B := 1000) s1 (show b2 ≤ 1000 by omega); omega
 ·have e : a2 * b1 = - (-b1 * a2) := by grind
  have := mle (B := 1000) s1 (show b2 ≤ 1000 by omega); have := mle (B := 1000) (show 0 ≤ -b1 by omega) (show a2 ≤ 1000 by omega); omega
 ·have e : a2 * b1 = - (-a2 * b1) := by grind
  have e2 : a1 * b2 = b2 * a1 := by grind
  have := mle (B := 1000) s4 (show a1 ≤ 1000 by omega); have := mle (B := 1000) (show 0 ≤ -a2 by omega) (show b1 ≤ 1000 by omega); omega
 ·have e : a2 * b1 = (-a2) * (-b1) := by grind
  have := n2 (-a2) (-b1) (by omega) (by omega); have := mle (B := 1000) s1 (show b2 ≤ 1000 by omega); omega
 ·have := n1 _ _ s1 s4; have := n2 _ _ s3 s2; omega
 ·have e : a2 * b1 = - (-b1 * a2) := by grind
  have := n1 _ _ s1 s4; have := mle (B := 1000) (show 0 ≤ -b1 by omega) (show a2 ≤ 1000 by omega); omega
 ·have e : a2 * b1 = - (-a2 * b1) := by grind
  have := n1 _ _ s1 s4; have := mle (B := 1000) (show 0 ≤ -a2 by omega) (show b1 ≤ 1000 by omega); omega
 ·have e : a2 * b1 = (-a2) * (-b1) := by grind
  have := n1 _ _ s1 s4; have := n2 (-a2) (-b1) (by omega) (by omega); omega
 ·have e2 : a1 * b2 = b2 * a1 := by grind
  have := n1 _ _ s4 s1; have := n2 _ _ s3 s2; omega
 ·have e2 : a1 * b2 = b2 * a1 := by grind
  have e : a2 * b1 = - (-b1 * a2) := by grind
  have := n1 _ _ s4 s1; have := mle (B := 1000) (show 0 ≤ -b1 by omega) (show a2 ≤ 1000 by omega); omega
 ·have e2 : a1 * b2 = b2 * a1 := by grind
  have e : a2 * b1 = - (-a2 * b1) := by grind
  have := n1 _ _ s4 s1; have := mle (B := 1000) (show 0 ≤ -a2 by omega) (show b1 ≤ 1000 by omega); omega
 ·have e2 : a1 * b2 = b2 * a1 := by grind
  have e : a2 * b1 = (-a2) * (-b1) := by grind
  have := n1 _ _ s4 s1; have := n2 (-a2) (-b1) (by omega) (by omega); omega
 ·have e2 : a1 * b2 = (-a1) * (-b2) := by grind
  have := n2 _ _ s3 s2; have := mle (B := 1000) (show 0 ≤ -a1 by omega) (show -b2 ≤ 1000 by omega); omega
 ·have e2 : a1 * b2 = (-b2) * (-a1) := by grind
  have e : a2 * b1 = - (a2 * -b1) := by grind
  have := mle (B := 1000) (show 0 ≤ -b2 by omega) (show -a1 ≤ 1000 by omega); have := mle (B := 1000) s3 (show -b1 ≤ 1000 by omega); omega
 ·have e2 : a1 * b2 = (-a1) * (-b2) := by grind
  have e : a2 * b1 = - (b1 * -a2) := by grind
  have := mle (B := 1000) (show 0 ≤ -a1 by omega) (show -b2 ≤ 1000 by omega); have := mle (B := 1000) s2 (show -a2 ≤ 1000 by omega); omega
 ·have e2 : a1 * b2 = (-a1) * (-b2) := by grind
  have e : a2 * b1 = (-a2) * (-b1) := by grind
  have := n2 (-a2) (-b1) (by omega) (by omega); have := mle (B := 1000) (show 0 ≤ -a1 by omega) (show -b2 ≤ 1000 by omega); omega
theorem absI_le {x B : Int} (h1 : x ≤ B) (h2 : -x ≤ B) : absI x ≤ B := by unfold absI; split <;> omega
theorem out_le {n : Nat} {t : List Nat} {p : List Int} {B : Int} (hB : 0 ≤ B) (h : ∀ k, k < p.length → absI (nth p k) ≤ B) (i : Nat) : ∀ K, K ≤ p.length → nth (outN n t p K) i ≤ B
 | 0, _ => by
  have : nth (outN n t p 0) i = 0 := by simp [outN, nth, List.getElem?_replicate]; split <;> rfl
  omega
 | K + 1, hK => by
  simp only [outN]
  rw [nth_set_]
  split
  ·exact h K (by omega)
  ·exact out_le hB h i K (by omega)
theorem putL_le {n : Nat} {t : List Nat} {p : List Int} {B : Int} (n1 : 1 ≤ n) (hl : (putL n t p).length = n) (hB : 0 ≤ B) (h : ∀ k, k < p.length → absI (nth p k) ≤ B) (i : Nat) : nth (putL n t p) i ≤ B := by
 rw [(putL_out n1 hl).1]
 exact out_le hB h i _ (Nat.le_refl _)
theorem exA_rg {l : List Met} (v : VldM l) (u c : Int) (s : Bool) (i : Nat) : -u ≤ exA l u c s i ∧ exA l u c s i ≤ 1000 - u := by
 have := badL_bd v s i
 have e : exA l u c s i = badL (mtl l i) s - u := by simp [exA, spr]
 omega
theorem exC_rg {l : List Met} (v : VldM l) (u c : Int) (s : Bool) (i : Nat) : c - 1000 ≤ exC l u c s i ∧ exC l u c s i ≤ c := by
 have := goodC_bd v s i
 have e : exC l u c s i = c - goodC (mtl l i) s := by simp [exC, spr]
 omega
theorem edg_le {l : List Met} (v : VldM l) {u c : Int} (hu : 0 ≤ u ∧ u ≤ 1000) (hc : 0 ≤ c ∧ c ≤ 1000) {s : Bool} {x : List Int} (h : x ∈ edg l u c s) (i : Nat) : nth x i ≤ 1000000 := by
 obtain ⟨ok, _, hF⟩ := edg_ok v hu hc h
 have hA := exA_rg v u c s
 have hC := exC_rg v u c s
 have hl := ok.len
 rcases hF with ⟨q, hq, rfl⟩ | ⟨b, a, hab, hb, rfl | rfl⟩ | ⟨d, b, a, hab, hbd, hd, rfl⟩
 ·refine putL_le (B := 1000000) v.n1 hl (by decide) (fun k hk => ?_) i
  obtain rfl : k = 0 := by simpa using hk
  decide
 ·refine putL_le (B := 1000000) v.n1 hl (by decide) (two_cases ?_ ?_) i
  ·have := hA a; exact absI_le (by show exA l u c s a ≤ _; omega) (by show - exA l u c s a ≤ _; omega)
  ·have := hA b; exact absI_le (by show - exA l u c s b ≤ _; omega) (by show - - exA l u c s b ≤ _; omega)
 ·refine putL_le (B := 1000000) v.n1 hl (by decide) (two_cases ?_ ?_) i
  ·have := hC a; exact absI_le (by show exC l u c s a ≤ _; omega) (by show - exC l u c s a ≤ _; omega)
  ·have := hC b; exact absI_le (by show - exC l u c s b ≤ _; omega) (by show - - exC l u c s b ≤ _; omega)
 ·have cr : ∀ p q, absI (exA l u c s p * exC l u c s q - exC l u c s p * exA l u c s q) ≤ 1000000 := fun p q => by
   have h1 := cross_le hu hc (hA p) (hA q) (hC p) (hC q)
   have h2 := cross_le hu hc (hA q) (hA p) (hC q) (hC p)
   refine absI_le h1 ?_
   rw [show -(exA l u c s p * exC l u c s q - exC l u c s p * exA l u c s q) = exA l u c s q * exC l u c s p - exC l u c s q * exA l u c s p by grind]
   exact h2
  exact putL_le (B := 1000000) v.n1 hl (by decide) (three_cases (cr b a) (cr a d) (cr d b)) i
theorem edg_vld {l : List Met} (v : VldM l) {u c : Int} (hu : 0 ≤ u ∧ u ≤ 1000) (hc : 0 ≤ c ∧ c ≤ 1000) {s : Bool} {x : List Int} (h : x ∈ edg l u c s) : VldX x l.length :=
 let ok := (edg_ok v hu hc h).1
 ⟨ok.len, fun i => (ok.prt i).1, edg_le v hu hc h, ok.pos⟩
theorem lst_zero (l : List Met) (u c : Int) (s : Bool) (h : ¬ cheE l u c s = 0) : lstN l u c s = 0 ∧ lstD l u c s = 0 := by
 unfold lstN lstD
 rw [if_neg h, if_neg h]
 exact ⟨rfl, rfl⟩
theorem chp_vld {l : List Met} {u c : Int} (hB : chkB l u c = 0) {s : Bool} (h : cheE l u c s = 0) : VldX (chpL l u c s) l.length ∧ psum (chpL l u c s) ≤ 6000000 := by
 obtain ⟨v, hu, hc⟩ := chkB_ok hB
 have vx := edg_vld v hu hc (chp_gx hB h).2
 exact ⟨vx, psum_le v.n6 vx.len vx.le vx.nn⟩
theorem lst_ok {l : List Met} {u c : Int} (hB : chkB l u c = 0) (s : Bool) (h : cheE l u c s = 0) : OkS (lstN l u c s) (lstD l u c s) := by
 obtain ⟨v, hu, hc⟩ := chkB_ok hB
 obtain ⟨vx, hp⟩ := chp_vld hB h
 unfold lstN lstD
 rw [if_pos h, if_pos h]
 exact cost_small v vx hp
theorem gx_of {l : List Met} {u c : Int} {s : Bool} {x : List Int} (vx : VldX x l.length) (h : isG l u c s x = true) : Gx l u c s x := ⟨vx.len, vx.nn, vx.ps, h⟩
theorem des_of {l : List Met} {u c : Int} (hB : chkB l u c = 0) {s : Bool} {x : List Int} (vx : VldX x l.length) : desE l u c s x = if isG l u c s x = true then 0 else 17 := by
 unfold desE; rw [if_neg (fun h => h hB), if_neg (by rw [mixE_ok.2 vx]; decide)]
theorem gx_des {l : List Met} {u c : Int} (hB : chkB l u c = 0) {s : Bool} {x : List Int} (vx : VldX x l.length) : desE l u c s x = 0 ↔ Gx l u c s x := by
 rw [des_of hB vx]
 constructor
 ·intro h
  by_cases g : isG l u c s x = true
  ·exact gx_of vx g
  ·rw [if_neg g] at h; cases h
 ·intro g; rw [if_pos g.gd]
theorem des_two {l : List Met} {u c : Int} (hB : chkB l u c = 0) (s : Bool) {x : List Int} (vx : VldX x l.length) : desE l u c s x = 0 ∨ desE l u c s x = 17 := by
 rw [des_of hB vx]; split
 ·exact .inl rfl
 ·exact .inr rfl
theorem nvr_bd {l : List Met} {u c : Int} {s : Bool} {d b le co : Int} (h : nvrE l u c s d b le co = 0) : I64 d ∧ I64 b ∧ I64 le ∧ I64 co := by
 unfold nvrE at h
 by_cases g : ¬ chkB l u c = 0
 ·rw [if_pos g] at h; exact absurd h g
 rw [if_neg g] at h
 by_cases g1 : d = 0 ∧ isPf b le co = true
 ·obtain ⟨p1, p2, p3⟩ := isPf_iff.1 g1.2
  have := g1.1
  exact ⟨⟨by omega, by omega⟩, ⟨by omega, by omega⟩, ⟨by omega, by omega⟩, ⟨by omega, by omega⟩⟩
 ·rw [if_pos g1] at h; cases h
set_option maxHeartbeats 4000000 in
theorem leastL_any (l : List Met) (q : FitM l) {u c : Int} (hB : chkB l u c = 0) (a : Option Addr) (cap : Nat) (iu : I64 u) (ic : I64 c) (s : Bool) (w : World) (hM : Mts w a l) :
 Calls Try.prog 44 #[.slice a l.length cap, (.agg #[.int .i64 (u), .int .i64 (c)]), .bool s] w fun e w' => e = .returned (.tuple #[(.agg #[.int .i64 (lstN l u c s), .int .i64 (lstD l u c s)]), .bool (decide (cheE l u c s = 0)), .bool true]) ∧ Ext w w' := by
 obtain ⟨v, hu, hc⟩ := chkB_ok hB
 have n6 := v.n6
 have hle := hid (fun W hW => least_any l q (by omega) a cap u c iu ic s W hW)
 have heq : ∀ (p q : Int) w, (Op.equalIn 10000 29 (.agg #[.int .i64 p, .int .i64 q]) (.agg #[.int .i64 p, .int .i64 q])).run Try.prog w = .ok true w := fun p q w => by rw [run_eqRatio]; simp
 have hz := lst_zero l u c s
 have hok := lst_ok hB s
 replace hM := hid hM
 obtain ⟨N, hN⟩ : ∃ z, lstN l u c s = z := ⟨_, rfl⟩
 obtain ⟨D, hD⟩ : ∃ z, lstD l u c s = z := ⟨_, rfl⟩
 rw [hN, hD] at hle hz hok ⊢
 rcases che_two hB s with g | g
 ·rw [g] at hle ⊢
  have k := hok g
  have hsm := hid (fun W => smallL_any N D k W)
  clear q v hu hc hB n6 hN hD hz hok k g
  go_enter Try.func44, Try.ntmps44
  go_wp2_with fail
  refine name_c (fun w0 hw0 => ?_)
  have X := hid (show Ext w w0 by rw [hw0]; exact exE)
  have rb := hid (show Bx2 w0 (w.heap.size + 1) 0 0 from ⟨by rw [hw0]; simp [go_sem], by rw [hw0]; simp [go_sem], by rw [hw0]; simp [go_sem], by rw [hw0]; simp [go_sem]⟩)
  clear hw0
  obtain ⟨B, hB⟩ : ∃ B, w.heap.size + 1 = B := ⟨_, rfl⟩
  rw [hB] at rb ⊢
  have hBB := hid (show w.heap.size ≤ B by omega)
  clear hB
  refine (hle.out _ (hM.out.ext X.out)).mono ?_; rintro e u1 ⟨rfl, hE⟩
  replace X := hid (X.out.trans hE)
  replace rb := hid (rb.out.ext hE)
  clear hE hle
  have lB := rb.out.lt
  go_upto_region 4 with (fail)
  refine name_wp (fun v1 hv => ?_)
  have x1 : Ext u1 v1 := by rw [hv]; exact exE
  have b0 : v1.cell? ⟨u1.heap.size, 0, none⟩ = some (.int .i64 N) := by rw [hv]; simp [go_sem]
  have b1 : v1.cell? ⟨u1.heap.size, 1, none⟩ = some (.int .i64 D) := by rw [hv]; simp [go_sem]
  have rb1 := rb.out.ext x1
  have xw := X.out.trans x1
  have hBl := rb.out.lt
  clear hv X x1 rb lB
  obtain ⟨C, hC⟩ : ∃ B, u1.heap.size = B := ⟨_, rfl⟩
  rw [hC] at b0 b1 hBl ⊢
  clear hC
  have hBn := hBB.out
  refine wp_mono (Q := calmS _) ?_ calmS_of
  refine wp_region_held_drew (S := fun w' => Ext w w' ∧ w'.cell? ⟨C, 0, none⟩ = some (.int .i64 N) ∧ w'.cell? ⟨C, 1, none⟩ = some (.int .i64 D)) (by kernel_rfl) ⟨xw.trans exE, (show Ext v1 _ from exE).cell b0, (show Ext v1 _ from exE).cell b1⟩ fun hHeld => ?_
  (refine tkA (i := 0) (v := ?_) rfl (fun _ _ _ h => h) (Or.inl ⟨by rfl, ?yl⟩) (by assumption) ?_; (case yl => ((intro w hSw; (try dsimp only at hSw); obtain ⟨_, kk0, kk1⟩ := hSw; go_simp); with_reducible rfl)); (try simp only [sxA, sxB, sxC, Act.put, sxD, sxE, sxF]))
  (refine tkA (i := 1) (v := ?_) rfl (fun _ _ _ h => h) (Or.inl ⟨by rfl, ?yl⟩) (by assumption) ?_; (case yl => ((intro w hSw; (try dsimp only at hSw); obtain ⟨_, kk0, kk1⟩ := hSw; go_simp); with_reducible rfl)); (try simp only [sxA, sxB, sxC, Act.put, sxD, sxE, sxF]))
  (refine tkA (i := 2) (v := ?_) rfl (fun _ _ _ h => h) (Or.inl ⟨by rfl, ?yl⟩) (by assumption) ?_; (case yl => ((intro w hSw; (try dsimp only at hSw); obtain ⟨_, kk0, kk1⟩ := hSw; go_simp); with_reducible rfl)); (try simp only [sxA, sxB, sxC, Act.put, sxD, sxE, sxF]))
  (refine tkA (i := 3) (v := ?_) rfl (fun _ _ _ h => h) (Or.inl ⟨by rfl, ?yl⟩) (by assumption) ?_; (case yl => ((intro w hSw; (try dsimp only at hSw); obtain ⟨_, kk0, kk1⟩ := hSw; go_simp); with_reducible rfl)); (try simp only [sxA, sxB, sxC, Act.put, sxD, sxE, sxF]))
  (refine tkA (i := 4) (v := ?_) rfl (fun _ _ _ h => h) (Or.inl ⟨by rfl, ?yl⟩) (by assumption) ?_; (case yl => ((intro w hSw; (try dsimp only at hSw); obtain ⟨_, kk0, kk1⟩ := hSw; go_simp); with_reducible rfl)); (try simp only [sxA, sxB, sxC, Act.put, sxD, sxE, sxF]))
  (refine wpAnyH_ready (rs := [5]) (by kernel_rfl) (by simp) ?_; refine AllReadyH.cons (o := _) rfl (fun K hK => ?_) AllReadyH.nil)
  go_simp
  refine (hsm.out _).mono ?_; rintro e w5 ⟨rfl, hE5⟩
  have x5 : Ext v1 w5 := exE
  refine hK.out _ _ ⟨xw.trans x5, x5.cell b0, x5.cell b1⟩ (fun hHeld => ?_)
  clear hK K
  (try simp only [sxA, sxB, sxC, Act.put, sxD, sxE, sxF])
  (refine tkA (i := 6) (v := ?_) rfl (fun _ _ _ h => h) (Or.inl ⟨by rfl, ?yl⟩) (by assumption) ?_; (case yl => ((intro w hSw; (try dsimp only at hSw); obtain ⟨_, kk0, kk1⟩ := hSw; go_simp); with_reducible rfl)); (try simp only [sxA, sxB, sxC, Act.put, sxD, sxE, sxF]))
  (refine wpAnyH_ready (rs := [7]) (by kernel_rfl) (by simp) ?_; refine AllReadyH.cons (o := _) rfl (fun K hK => ?_) AllReadyH.nil)
  have A6 := rb1.ext x5
  obtain ⟨c0, c1, g0, g1⟩ := A6
  have y0 := cell_lt c0
  dsimp only at y0
  go_simp
  obtain ⟨w7, hw7⟩ : ∃ w7, w7 = (w5.setCell ⟨B, 0, none⟩ (.int .i64 N)).setCell ⟨B, 1, none⟩ (.int .i64 D) := ⟨_, rfl⟩
  have X5 := xw.trans x5
  have X7 : Ext w w7 := by rw [hw7]; exact exE
  have b07 : w7.cell? ⟨C, 0, none⟩ = some (.int .i64 N) := by rw [hw7]; exact box_put (by omega) (box_put (by omega) (x5.cell b0))
  have b17 : w7.cell? ⟨C, 1, none⟩ = some (.int .i64 D) := by rw [hw7]; exact box_put (by omega) (box_put (by omega) (x5.cell b1))
  have A7 : Bx2 w7 B N D := by rw [hw7]; exact Bx2.store ⟨c0, c1, g0, g1⟩ _ _
  rw [← hw7]
  clear hw7
  refine hK.out _ _ ⟨X7, b07, b17⟩ (fun hHeld => ?_)
  clear hK K
  clear c0 c1 g0 g1 y0 x5 hE5
  (try simp only [sxA, sxB, sxC, Act.put, sxD, sxE, sxF])
  (refine tkA (i := 8) (v := ?_) rfl (fun _ _ _ h => h) (Or.inl ⟨by rfl, ?yl⟩) (by assumption) ?_; (case yl => ((intro w hSw; (try dsimp only at hSw); obtain ⟨_, kk0, kk1⟩ := hSw; go_simp); with_reducible rfl)); (try simp only [sxA, sxB, sxC, Act.put, sxD, sxE, sxF]))
  (refine tkA (i := 9) (v := ?_) rfl (fun _ _ _ h => h) (Or.inl ⟨by rfl, ?yl⟩) (by assumption) ?_; (case yl => ((intro w hSw; (try dsimp only at hSw); obtain ⟨_, kk0, kk1⟩ := hSw; go_simp); with_reducible rfl)); (try simp only [sxA, sxB, sxC, Act.put, sxD, sxE, sxF]))
  refine wpAnyH_done (by kernel_rfl) ?_ _
  obtain ⟨c0, c1, _, _⟩ := A7
  simp only [calmS]
  go_wp2_with fail
  refine bodyPost_ret (v := .tuple #[(.agg #[.int .i64 (N), .int .i64 (D)]), .bool true, .bool true]) ?_ rfl ⟨rfl, X7⟩
  simp [results, Try.results44, go_sem, *]
 ·have hz := hz (by rw [g]; decide)
  obtain ⟨rfl, rfl⟩ := hz
  rw [g] at hle ⊢
  clear q v hu hc hB n6 hN hD hok g
  go_enter Try.func44, Try.ntmps44
  go_wp2_with fail
  refine name_c (fun w0 hw0 => ?_)
  have X := hid (show Ext w w0 by rw [hw0]; exact exE)
  have rb := hid (show Bx2 w0 (w.heap.size + 1) 0 0 from ⟨by rw [hw0]; simp [go_sem], by rw [hw0]; simp [go_sem], by rw [hw0]; simp [go_sem], by rw [hw0]; simp [go_sem]⟩)
  clear hw0
  obtain ⟨B, hB⟩ : ∃ B, w.heap.size + 1 = B := ⟨_, rfl⟩
  rw [hB] at rb ⊢
  have hBB := hid (show w.heap.size ≤ B by omega)
  clear hB
  refine (hle.out _ (hM.out.ext X.out)).mono ?_; rintro e u1 ⟨rfl, hE⟩
  replace X := hid (X.out.trans hE)
  replace rb := hid (rb.out.ext hE)
  clear hE hle
  have lB := rb.out.lt
  go_upto_region 3 with (fail)
  refine name_wp (fun v1 hv => ?_)
  have x1 : Ext u1 v1 := by rw [hv]; exact exE
  have b0 : v1.cell? ⟨u1.heap.size, 0, none⟩ = some (.int .i64 0) := by rw [hv]; simp [go_sem]
  have b1 : v1.cell? ⟨u1.heap.size, 1, none⟩ = some (.int .i64 0) := by rw [hv]; simp [go_sem]
  have rb1 := rb.out.ext x1
  have xw := X.out.trans x1
  have hBl := rb.out.lt
  clear hv X x1 rb lB
  obtain ⟨C, hC⟩ : ∃ B, u1.heap.size = B := ⟨_, rfl⟩
  rw [hC] at b0 b1 hBl ⊢
  clear hC
  have hBn := hBB.out
  refine wp_mono (Q := calmS _) ?_ calmS_of
  refine wp_region_held_drew (S := fun w' => Ext w w' ∧ w'.cell? ⟨C, 0, none⟩ = some (.int .i64 0) ∧ w'.cell? ⟨C, 1, none⟩ = some (.int .i64 0)) (by kernel_rfl) ⟨xw.trans exE, (show Ext v1 _ from exE).cell b0, (show Ext v1 _ from exE).cell b1⟩ fun hHeld => ?_
  (refine tkA (i := 0) (v := ?_) rfl (fun _ _ _ h => h) (Or.inl ⟨by rfl, ?yl⟩) (by assumption) ?_; (case yl => ((intro w hSw; (try dsimp only at hSw); obtain ⟨_, kk0, kk1⟩ := hSw; go_simp); with_reducible rfl)); (try simp only [sxA, sxB, sxC, Act.put, sxD, sxE, sxF]))
  (refine tkA (i := 1) (v := ?_) rfl (fun _ _ _ h => h) (Or.inl ⟨by rfl, ?yl⟩) (by assumption) ?_; (case yl => ((intro w hSw; (try dsimp only at hSw); obtain ⟨_, kk0, kk1⟩ := hSw; go_simp); with_reducible rfl)); (try simp only [sxA, sxB, sxC, Act.put, sxD, sxE, sxF]))
  (refine tkA (i := 2) (v := ?_) rfl (fun _ _ _ h => h) (Or.inl ⟨by rfl, ?yl⟩) (by assumption) ?_; (case yl => ((intro w hSw; (try dsimp only at hSw); obtain ⟨_, kk0, kk1⟩ := hSw; go_simp); with_reducible rfl)); (try simp only [sxA, sxB, sxC, Act.put, sxD, sxE, sxF]))
  (refine tkA (i := 3) (v := ?_) rfl (fun _ _ _ h => h) (Or.inl ⟨by rfl, ?yl⟩) (by assumption) ?_; (case yl => ((intro w hSw; (try dsimp only at hSw); obtain ⟨_, kk0, kk1⟩ := hSw; go_simp); with_reducible rfl)); (try simp only [sxA, sxB, sxC, Act.put, sxD, sxE, sxF]))
  (refine wpAnyH_ready (rs := [4]) (by kernel_rfl) (by simp) ?_; refine AllReadyH.cons (o := _) rfl (fun K hK => ?_) AllReadyH.nil)
  obtain ⟨c0, c1, g0, g1⟩ := rb1
  have y0 := cell_lt c0
  dsimp only at y0
  go_simp
  obtain ⟨w6, hw6⟩ : ∃ w6, w6 = (v1.setCell ⟨B, 0, none⟩ (.int .i64 0)).setCell ⟨B, 1, none⟩ (.int .i64 0) := ⟨_, rfl⟩
  have X6 : Ext w w6 := by rw [hw6]; have := xw; exact exE
  have b06 : w6.cell? ⟨C, 0, none⟩ = some (.int .i64 0) := by rw [hw6]; exact box_put (by omega) (box_put (by omega) b0)
  have b16 : w6.cell? ⟨C, 1, none⟩ = some (.int .i64 0) := by rw [hw6]; exact box_put (by omega) (box_put (by omega) b1)
  have A6 : Bx2 w6 B 0 0 := by rw [hw6]; exact Bx2.store ⟨c0, c1, g0, g1⟩ _ _
  rw [← hw6]
  clear hw6
  obtain ⟨w7, hw7⟩ : ∃ w7, w7 = w6.drew := ⟨_, rfl⟩
  have x67 : Ext w6 w7 := by rw [hw7]; exact exE
  have X7 := X6.trans x67
  have b07 := x67.cell b06
  have b17 := x67.cell b16
  have A7 := A6.ext x67
  clear x67 X6 b06 b16 A6
  rw [← hw7]
  clear hw7
  refine hK.out _ _ ⟨X7, b07, b17⟩ (fun hHeld => ?_)
  clear hK K
  clear c0 c1 g0 g1 y0
  (try simp only [sxA, sxB, sxC, Act.put, sxD, sxE, sxF])
  (refine tkA (i := 5) (v := ?_) rfl (fun _ _ _ h => h) (Or.inl ⟨by rfl, ?yl⟩) (by assumption) ?_; (case yl => ((intro w hSw; (try dsimp only at hSw); obtain ⟨_, kk0, kk1⟩ := hSw; go_simp); with_reducible rfl)); (try simp only [sxA, sxB, sxC, Act.put, sxD, sxE, sxF]))
  (refine tkA (i := 6) (v := ?_) rfl (fun _ _ _ h => h) (Or.inl ⟨by rfl, ?yl⟩) (by assumption) ?_; (case yl => ((intro w hSw; (try dsimp only at hSw); obtain ⟨_, kk0, kk1⟩ := hSw; go_simp); with_reducible rfl)); (try simp only [sxA, sxB, sxC, Act.put, sxD, sxE, sxF]))
  refine wpAnyH_done (by kernel_rfl) ?_ _
  obtain ⟨c0, c1, _, _⟩ := A7
  simp only [calmS]
  go_wp2_with fail
  refine bodyPost_ret (v := .tuple #[(.agg #[.int .i64 (0), .int .i64 (0)]), .bool false, .bool true]) ?_ rfl ⟨rfl, X7⟩
  simp [results, Try.results44, go_sem, *]
set_option maxHeartbeats 16000000 in
theorem alloyEither_any (l : List Met) (q : FitM l) (a : Option Addr) (cap : Nat) (u c : Int) (s : Bool) (p : List Int) (hp : ∀ i, 0 ≤ nth p i ∧ nth p i ≤ 65535) (ap : Option Addr) (cpp : Nat) (d b le co : Int) (w : World) (hM : Mts w a l) (hl : l.length ≤ 9223372036854775807) (iu : I64 u) (ic : I64 c) (hP : Wrds w ap p) (hlp : p.length ≤ 9223372036854775807) (wd : I64 d) (wb : I64 b) (wl : I64 le) (wc : I64 co) :
 Calls Try.prog 8 #[.slice a l.length cap, (.agg #[.int .i64 (u), .int .i64 (c)]), .bool s, .slice ap p.length cpp, (.agg #[.int .i64 (d), .int .i64 (b), .int .i64 (le), .int .i64 (co)])] w fun e w' => e = .returned (.bool true) ∧ Ext w w' := by
 have hf := hid (fun W (x : Ext w W) => fineL_any l q hl a cap u c W (hM.ext x))
 by_cases g : chkB l u c = 0
 case neg =>
  rw [decide_eq_false g] at hf
  replace g := hid g
  clear hM hP
  go_enter Try.func8, Try.ntmps8
  go_wp2_with fail
  refine (hf.out _ exE).mono ?_; rintro e w1 ⟨rfl, hE⟩
  have x1 := hid (show Ext w w1 from exE)
  go_wp2_with fail
  refine (works_any _).mono ?_; rintro e w2 ⟨rfl, hE2⟩
  go_wp2_with fail
  go_ret
  exact ⟨rfl, by have := x1.out; exact exE⟩
 rw [decide_eq_true g] at hf
 by_cases gpp : 20 < p.length
 ·have gIp : (20 : Int) < (p.length : Int) := by omega
  replace g := hid g
  clear hM hP
  go_enter Try.func8, Try.ntmps8
  go_wp2_with fail
  refine (hf.out _ exE).mono ?_; rintro e w1 ⟨rfl, hE⟩
  have x1 := hid (show Ext w w1 from exE)
  go_wp2_with fail
  refine (works_any _).mono ?_; rintro e w2 ⟨rfl, hE2⟩
  go_wp2_with fail
  go_ret
  exact ⟨rfl, by have := x1.out; exact exE⟩
 have gIp : ¬ (20 : Int) < (p.length : Int) := by omega
 obtain ⟨v, hu, hc⟩ := chkB_ok g
 have n1 := v.n1; have n6 := v.n6
 have hl2 : l.length ≤ 1000 := by omega
 have hcm : chkM l = 0 := by by_cases h : chkM l = 0; exact h; (unfold chkB at g; rw [if_neg h] at g; exact absurd g h)
 have hmxx := hid (fun W (x : Ext w W) => mixedL_any l.length n6 p hp hlp ap cpp W (hP.ext x))
 have vxx := pln_vld (m := l.length) hp n1
 obtain ⟨x, hdfx⟩ : ∃ x, pln l.length p = x := ⟨_, rfl⟩
 rw [hdfx] at hmxx vxx
 have fx : Hid (∀ i, I64 (nth x i)) := hid fun i => ⟨by have := vxx.nn i; omega, by have := vxx.le i; omega⟩
 have xl := hid vxx.len
 have xl2 : x.length ≤ 1000 := by rw [xl.out]; omega
 have heq4 : ∀ (p q r t : Int) w, (Op.equalIn 10000 45 (.agg #[.int .i64 (p), .int .i64 (q), .int .i64 (r), .int .i64 (t)]) (.agg #[.int .i64 (p), .int .i64 (q), .int .i64 (r), .int .i64 (t)])).run Try.prog w = .ok true w := run_eqProof
 have hct := hid (che_two g s)
 have hns := nv_spec g s
 have hdt := des_two (u := u) (c := c) g s vxx
 have hgd := gx_des (u := u) (c := c) g (s := s) vxx
 have hgc := gx_che (u := u) (c := c) g s
 have h0 : Hid (cheE l u c s = 0 → nvEr l u c s = 5 ∧ nvX l u c s = [0, 0, 0, 0] ∧ nvrE l u c s d b le co ≠ 0) := hid fun h => ⟨(hns.1 h).1, (hns.1 h).2, fun e => by obtain ⟨y, gy⟩ := hgc.1 h; exact (nvr_no e).2 y gy⟩
 have h1 : Hid (¬ cheE l u c s = 0 → nvEr l u c s = 0 ∧ nvrE l u c s (nth (nvX l u c s) 0) (nth (nvX l u c s) 1) (nth (nvX l u c s) 2) (nth (nvX l u c s) 3) = 0 ∧ desE l u c s x = 17) := hid fun h => ⟨(hns.2 h).1, (hns.2 h).2, hdt.resolve_left fun e => h (hgc.2 ⟨x, hgd.1 e⟩)⟩
 have hL := hid (fun W h => leastL_any l q g a cap iu ic s W h)
 have hNv := hid (fun W h => never_any l q hl2 a cap u c iu ic s W h)
 have hNv : Hid (∀ W, Mts W a l → Calls Try.prog 36 #[.slice a l.length cap, (.agg #[.int .i64 (u), .int .i64 (c)]), .bool s] W fun e w' => e = .returned (.tuple #[(.agg #[.int .i64 (nth (nvX l u c s) 0), .int .i64 (nth (nvX l u c s) 1), .int .i64 (nth (nvX l u c s) 2), .int .i64 (nth (nvX l u c s) 3)]), .int .i64 (nvEr l u c s)]) ∧ Ext W w') := hid hNv.out
 have hNp := hid (fun W h => checkNever_any l q hl2 a cap u c iu ic s d b le co wd wb wl wc W h)
 have hNpR := hid (fun W h => checkNeverR_any l q hl2 a cap u c s d b le co W h)
 have hD1 := hid (fun a1 c1 W h1 h2 => by have := deserves_any l q hl2 a cap u c iu ic s x fx.out xl2 a1 c1 W h1 h2; rw [xl.out] at this; exact this)
 have hNw := hid (fun (h : nvrE l u c s (nth (nvX l u c s) 0) (nth (nvX l u c s) 1) (nth (nvX l u c s) 2) (nth (nvX l u c s) 3) = 0) W h1 => by obtain ⟨b0, b1, b2, b3⟩ := nvr_bd h; have := checkNever_any l q hl2 a cap u c iu ic s _ _ _ _ b0 b1 b2 b3 W h1; rw [h] at this; exact this)
 have hNwR := hid (fun (h : nvrE l u c s (nth (nvX l u c s) 0) (nth (nvX l u c s) 1) (nth (nvX l u c s) 2) (nth (nvX l u c s) 3) = 0) W h1 => by have := checkNeverR_any l q hl2 a cap u c s (nth (nvX l u c s) 0) (nth (nvX l u c s) 1) (nth (nvX l u c s) 2) (nth (nvX l u c s) 3) W h1; rw [h] at this; exact this)
 replace hM := hid hM
 replace g := hid g
 clear q v hu hc hcm vxx hdfx gpp hns hdt hgd hgc hl2
 replace hP := hid hP
 obtain ⟨n, hn⟩ : ∃ n, l.length = n := ⟨_, rfl⟩
 rw [hn] at hf hmxx n1 n6 xl hL hNv hNp hNpR hD1 hNw hNwR ⊢
 replace hn := hid hn
 generalize lstN l u c s = LN at *
 generalize lstD l u c s = LD at *
 generalize cheE l u c s = EC at *
 generalize desE l u c s x = DE at *
 generalize nvrE l u c s d b le co = NE at *
 generalize nvX l u c s = NX at *
 generalize nvEr l u c s = NR at *
 rcases hct.out with gE | gE
 ·subst gE
  obtain ⟨rfl, rfl, hne⟩ := h0.out rfl
  have hne2 : (NE != 0) = true := by simpa using hne
  replace hne := hid hne
  rw [show decide ((0 : Int) = 0) = true from rfl] at hL
  rw [show nth ([0, 0, 0, 0] : List Int) 0 = 0 from rfl, show nth ([0, 0, 0, 0] : List Int) 1 = 0 from rfl, show nth ([0, 0, 0, 0] : List Int) 2 = 0 from rfl, show nth ([0, 0, 0, 0] : List Int) 3 = 0 from rfl] at hNv
  clear h0 h1 hNw hNwR hct
  go_enter Try.func8, Try.ntmps8
  go_wp2_with fail
  refine (hf.out _ exE).mono ?_; rintro e w1 ⟨rfl, hE⟩
  have X := hid (show Ext w w1 from exE)
  have t_0 := hid (hE.cell (p := ⟨w.heap.size, 0, none⟩) (v := .int .i64 (u)) (by simp [go_sem]))
  have t_1 := hid (hE.cell (p := ⟨w.heap.size, 1, none⟩) (v := .int .i64 (c)) (by simp [go_sem]))
  have p_0 := hid (hE.cell (p := ⟨w.heap.size + 1, 0, none⟩) (v := .int .i64 (d)) (by simp [go_sem]))
  have p_1 := hid (hE.cell (p := ⟨w.heap.size + 1, 1, none⟩) (v := .int .i64 (b)) (by simp [go_sem]))
  have p_2 := hid (hE.cell (p := ⟨w.heap.size + 1, 2, none⟩) (v := .int .i64 (le)) (by simp [go_sem]))
  have p_3 := hid (hE.cell (p := ⟨w.heap.size + 1, 3, none⟩) (v := .int .i64 (co)) (by simp [go_sem]))
  replace hM := hid (hM.out.ext X.out)
  obtain ⟨T, hT⟩ : ∃ T, w.heap.size = T := ⟨_, rfl⟩
  rw [hT] at t_0 t_1 p_0 p_1 p_2 p_3 ⊢
  clear hE hf hT
  have o0 := t_0.out
  have lo0 := cell_lt o0; dsimp only at lo0
  have o1 := t_1.out
  go_wp2_with fail
  refine name_c (fun v1 hv => ?_)
  have x1 : Ext w1 v1 := by rw [hv]; exact exE
  replace X := hid (X.out.trans x1); replace hM := hid (hM.out.ext x1); replace t_0 := hid (x1.cell t_0.out); replace t_1 := hid (x1.cell t_1.out)
  replace p_0 := hid (x1.cell p_0.out); replace p_1 := hid (x1.cell p_1.out); replace p_2 := hid (x1.cell p_2.out); replace p_3 := hid (x1.cell p_3.out)
  clear o0 lo0 o1
  clear hv x1
  refine (hL.out _ hM.out).mono ?_; rintro e u2 ⟨rfl, hE⟩
  replace X := hid (X.out.trans hE); replace hM := hid (hM.out.ext hE); replace t_0 := hid (hE.cell t_0.out); replace t_1 := hid (hE.cell t_1.out)
  replace p_0 := hid (hE.cell p_0.out); replace p_1 := hid (hE.cell p_1.out); replace p_2 := hid (hE.cell p_2.out); replace p_3 := hid (hE.cell p_3.out)
  clear hE
  have o0 := t_0.out
  have lo0 := cell_lt o0; dsimp only at lo0
  have o1 := t_1.out
  go_wp2_with fail
  refine name_c (fun v3 hv => ?_)
  have x1 : Ext u2 v3 := by rw [hv]; exact exE
  have b11_0 := hid (show v3.cell? ⟨u2.heap.size, 0, none⟩ = some (.int .i64 (LN)) by rw [hv]; simp [go_sem])
  have b11_1 := hid (show v3.cell? ⟨u2.heap.size, 1, none⟩ = some (.int .i64 (LD)) by rw [hv]; simp [go_sem])
  replace X := hid (X.out.trans x1); replace hM := hid (hM.out.ext x1); replace t_0 := hid (x1.cell t_0.out); replace t_1 := hid (x1.cell t_1.out)
  replace p_0 := hid (x1.cell p_0.out); replace p_1 := hid (x1.cell p_1.out); replace p_2 := hid (x1.cell p_2.out); replace p_3 := hid (x1.cell p_3.out)
  clear o0 lo0 o1
  clear hv x1
  obtain ⟨Bb11, hBn⟩ : ∃ z, u2.heap.size = z := ⟨_, rfl⟩
  rw [hBn] at b11_0 b11_1 ⊢
  clear hBn
  refine (hNv.out _ hM.out).mono ?_; rintro e u4 ⟨rfl, hE⟩
  replace X := hid (X.out.trans hE); replace hM := hid (hM.out.ext hE); replace t_0 := hid (hE.cell t_0.out); replace t_1 := hid (hE.cell t_1.out)
  replace p_0 := hid (hE.cell p_0.out); replace p_1 := hid (hE.cell p_1.out); replace p_2 := hid (hE.cell p_2.out); replace p_3 := hid (hE.cell p_3.out)
  replace b11_0 := hid (hE.cell b11_0.out); replace b11_1 := hid (hE.cell b11_1.out)
  clear hE
  have o0 := t_0.out
  have lo0 := cell_lt o0; dsimp only at lo0
  have o1 := t_1.out
  have o2 := p_0.out
  have lo2 := cell_lt o2; dsimp only at lo2
  have o3 := p_1.out
  have o4 := p_2.out
  have o5 := p_3.out
  go_wp2_with fail
  refine name_c (fun v5 hv => ?_)
  have x1 : Ext u4 v5 := by rw [hv]; exact exE
  have b14_0 := hid (show v5.cell? ⟨u4.heap.size, 0, none⟩ = some (.int .i64 (0)) by rw [hv]; simp [go_sem])
  have b14_1 := hid (show v5.cell? ⟨u4.heap.size, 1, none⟩ = some (.int .i64 (0)) by rw [hv]; simp [go_sem])
  have b14_2 := hid (show v5.cell? ⟨u4.heap.size, 2, none⟩ = some (.int .i64 (0)) by rw [hv]; simp [go_sem])
  have b14_3 := hid (show v5.cell? ⟨u4.heap.size, 3, none⟩ = some (.int .i64 (0)) by rw [hv]; simp [go_sem])
  replace X := hid (X.out.trans x1); replace hM := hid (hM.out.ext x1); replace t_0 := hid (x1.cell t_0.out); replace t_1 := hid (x1.cell t_1.out)
  replace p_0 := hid (x1.cell p_0.out); replace p_1 := hid (x1.cell p_1.out); replace p_2 := hid (x1.cell p_2.out); replace p_3 := hid (x1.cell p_3.out)
  replace b11_0 := hid (x1.cell b11_0.out); replace b11_1 := hid (x1.cell b11_1.out)
  clear o0 lo0 o1 o2 lo2 o3 o4 o5
  clear hv x1
  obtain ⟨Bb14, hBn⟩ : ∃ z, u4.heap.size = z := ⟨_, rfl⟩
  rw [hBn] at b14_0 b14_1 b14_2 b14_3 ⊢
  clear hBn
  refine (hNp.out _ hM.out).mono ?_; rintro e u6 ⟨rfl, hE⟩
  replace X := hid (X.out.trans hE); replace hM := hid (hM.out.ext hE); replace t_0 := hid (hE.cell t_0.out); replace t_1 := hid (hE.cell t_1.out)
  replace p_0 := hid (hE.cell p_0.out); replace p_1 := hid (hE.cell p_1.out); replace p_2 := hid (hE.cell p_2.out); replace p_3 := hid (hE.cell p_3.out)
  replace b11_0 := hid (hE.cell b11_0.out); replace b11_1 := hid (hE.cell b11_1.out); replace b14_0 := hid (hE.cell b14_0.out); replace b14_1 := hid (hE.cell b14_1.out)
  replace b14_2 := hid (hE.cell b14_2.out); replace b14_3 := hid (hE.cell b14_3.out)
  clear hE
  go_upto_region 6 with (fail)
  refine name_wp (fun v7 hv => ?_)
  have x1 : Ext u6 v7 := by rw [hv]; exact exE
  replace X := hid (X.out.trans x1); replace hM := hid (hM.out.ext x1); replace t_0 := hid (x1.cell t_0.out); replace t_1 := hid (x1.cell t_1.out)
  replace p_0 := hid (x1.cell p_0.out); replace p_1 := hid (x1.cell p_1.out); replace p_2 := hid (x1.cell p_2.out); replace p_3 := hid (x1.cell p_3.out)
  replace b11_0 := hid (x1.cell b11_0.out); replace b11_1 := hid (x1.cell b11_1.out); replace b14_0 := hid (x1.cell b14_0.out); replace b14_1 := hid (x1.cell b14_1.out)
  replace b14_2 := hid (x1.cell b14_2.out); replace b14_3 := hid (x1.cell b14_3.out)
  clear hv x1
  refine wp_mono (Q := calmS _) ?_ calmS_of
  refine wp_region_held_drew (S := fun w' => Ext v7 w') (by kernel_rfl) exE fun hHeld => ?_
  try simp only [List.append_eq, List.cons_append, List.nil_append]
  (refine tkA (i := 0) (v := ?_) rfl (fun _ _ _ h => h) (Or.inl ⟨by rfl, ?yl⟩) (by assumption) ?_; (case yl => ((intro w hSw; (try dsimp only at hSw);  go_simp); with_reducible rfl)); (try simp only [sxA, sxB, sxC, Act.put, sxD, sxE, sxF]))
  (refine tkA (i := 1) (v := ?_) rfl (fun _ _ _ h => h) (Or.inl ⟨by rfl, ?yl⟩) (by assumption) ?_; (case yl => ((intro w hSw; (try dsimp only at hSw); have kk0 := hSw.cell t_0.out; have kk1 := hSw.cell t_1.out; go_simp); with_reducible rfl)); (try simp only [sxA, sxB, sxC, Act.put, sxD, sxE, sxF]))
  (refine tkA (i := 2) (v := ?_) rfl (fun _ _ _ h => h) (Or.inl ⟨by rfl, ?yl⟩) (by assumption) ?_; (case yl => ((intro w hSw; (try dsimp only at hSw);  go_simp); with_reducible rfl)); (try simp only [sxA, sxB, sxC, Act.put, sxD, sxE, sxF]))
  (refine tkA (i := 3) (v := ?_) rfl (fun _ _ _ h => h) (Or.inl ⟨by rfl, ?yl⟩) (by assumption) ?_; (case yl => ((intro w hSw; (try dsimp only at hSw);  go_simp); with_reducible rfl)); (try simp only [sxA, sxB, sxC, Act.put, sxD, sxE, sxF]))
  (refine tkA (i := 4) (v := ?_) rfl (fun _ _ _ h => h) (Or.inl ⟨by rfl, ?yl⟩) (by assumption) ?_; (case yl => ((intro w hSw; (try dsimp only at hSw);  go_simp); with_reducible rfl)); (try simp only [sxA, sxB, sxC, Act.put, sxD, sxE, sxF]))
  (refine tkA (i := 5) (v := ?_) rfl (fun _ _ _ h => h) (Or.inl ⟨by rfl, ?yl⟩) (by assumption) ?_; (case yl => ((intro w hSw; (try dsimp only at hSw);  go_simp); with_reducible rfl)); (try simp only [sxA, sxB, sxC, Act.put, sxD, sxE, sxF]))
  (refine wpAnyH_ready (rs := [6]) (by kernel_rfl) (by simp) ?_; refine AllReadyH.cons (o := _) rfl (fun K hK => ?_) AllReadyH.nil)
  go_simp
  refine (hmxx.out _ (X.out.trans (show Ext v7 _ from exE))).mono ?_; rintro e u8 ⟨a1, k1, rfl, hI, hE⟩
  have xu8 : Ext v7 u8 := exE
  clear hE
  rw [xl.out]
  replace hI := hid hI
  refine hK.out _ _ xu8 (fun hHeld => ?_)
  clear hK K
  (try simp only [sxA, sxB, sxC, Act.put, sxD, sxE, sxF])
  (refine wpAnyH_ready (rs := [7]) (by kernel_rfl) (by simp) ?_; refine AllReadyH.cons (o := _) rfl (fun K hK => ?_) AllReadyH.nil)
  go_simp
  refine (hD1.out _ _ _ (hM.out.ext (show Ext v7 _ from exE)) (hI.out.ext exE)).mono ?_; rintro e u9 ⟨rfl, hE⟩
  have xu9 : Ext v7 u9 := exE
  clear hE
  refine hK.out _ _ xu9 (fun hHeld => ?_)
  clear hK K
  (try simp only [sxA, sxB, sxC, Act.put, sxD, sxE, sxF])
  (refine tkA (i := 8) (v := ?_) rfl (fun _ _ _ h => h) (Or.inl ⟨by rfl, ?yl⟩) (by assumption) ?_; (case yl => ((intro w hSw; (try dsimp only at hSw);  go_simp); with_reducible rfl)); (try simp only [sxA, sxB, sxC, Act.put, sxD, sxE, sxF]))
  refine wpAnyH_done (by kernel_rfl) ?_ _
  simp only [calmS]
  replace X := hid (X.out.trans xu9); replace hM := hid (hM.out.ext xu9); replace t_0 := hid (xu9.cell t_0.out); replace t_1 := hid (xu9.cell t_1.out)
  replace p_0 := hid (xu9.cell p_0.out); replace p_1 := hid (xu9.cell p_1.out); replace p_2 := hid (xu9.cell p_2.out); replace p_3 := hid (xu9.cell p_3.out)
  replace b11_0 := hid (xu9.cell b11_0.out); replace b11_1 := hid (xu9.cell b11_1.out); replace b14_0 := hid (xu9.cell b14_0.out); replace b14_1 := hid (xu9.cell b14_1.out)
  replace b14_2 := hid (xu9.cell b14_2.out); replace b14_3 := hid (xu9.cell b14_3.out)
  clear hHeld
  have o0 := t_0.out
  have lo0 := cell_lt o0; dsimp only at lo0
  have o1 := t_1.out
  have o2 := p_0.out
  have lo2 := cell_lt o2; dsimp only at lo2
  have o3 := p_1.out
  have o4 := p_2.out
  have o5 := p_3.out
  go_wp2_with fail
  refine name_c (fun v10 hv => ?_)
  have x1 : Ext u9 v10 := by rw [hv]; exact exE
  replace X := hid (X.out.trans x1); replace hM := hid (hM.out.ext x1); replace t_0 := hid (x1.cell t_0.out); replace t_1 := hid (x1.cell t_1.out)
  replace p_0 := hid (x1.cell p_0.out); replace p_1 := hid (x1.cell p_1.out); replace p_2 := hid (x1.cell p_2.out); replace p_3 := hid (x1.cell p_3.out)
  replace b11_0 := hid (x1.cell b11_0.out); replace b11_1 := hid (x1.cell b11_1.out); replace b14_0 := hid (x1.cell b14_0.out); replace b14_1 := hid (x1.cell b14_1.out)
  replace b14_2 := hid (x1.cell b14_2.out); replace b14_3 := hid (x1.cell b14_3.out)
  clear o0 lo0 o1 o2 lo2 o3 o4 o5
  clear hv x1
  refine (hNpR.out _ hM.out).mono ?_; rintro e u11 ⟨rfl, hE⟩
  replace X := hid (X.out.trans hE); replace hM := hid (hM.out.ext hE); replace t_0 := hid (hE.cell t_0.out); replace t_1 := hid (hE.cell t_1.out)
  replace p_0 := hid (hE.cell p_0.out); replace p_1 := hid (hE.cell p_1.out); replace p_2 := hid (hE.cell p_2.out); replace p_3 := hid (hE.cell p_3.out)
  replace b11_0 := hid (hE.cell b11_0.out); replace b11_1 := hid (hE.cell b11_1.out); replace b14_0 := hid (hE.cell b14_0.out); replace b14_1 := hid (hE.cell b14_1.out)
  replace b14_2 := hid (hE.cell b14_2.out); replace b14_3 := hid (hE.cell b14_3.out)
  clear hE
  have o0 := b14_0.out
  have lo0 := cell_lt o0; dsimp only at lo0
  have o1 := b14_1.out
  have o2 := b14_2.out
  have o3 := b14_3.out
  go_wp2_with fail
  refine (works_any _).mono ?_; rintro e w9 ⟨rfl, hE9⟩
  have X9 := hid (X.out.trans (show Ext u11 w9 from exE))
  go_wp2_with fail
  go_ret
  exact ⟨rfl, X9.out⟩
 ·subst gE
  obtain ⟨rfl, hw0, rfl⟩ := h1.out (by decide)
  replace hw0 := hid hw0
  rw [show decide ((17 : Int) = 0) = false from rfl] at hL
  clear h0 h1 hct
  go_enter Try.func8, Try.ntmps8
  go_wp2_with fail
  refine (hf.out _ exE).mono ?_; rintro e w1 ⟨rfl, hE⟩
  have X := hid (show Ext w w1 from exE)
  have t_0 := hid (hE.cell (p := ⟨w.heap.size, 0, none⟩) (v := .int .i64 (u)) (by simp [go_sem]))
  have t_1 := hid (hE.cell (p := ⟨w.heap.size, 1, none⟩) (v := .int .i64 (c)) (by simp [go_sem]))
  have p_0 := hid (hE.cell (p := ⟨w.heap.size + 1, 0, none⟩) (v := .int .i64 (d)) (by simp [go_sem]))
  have p_1 := hid (hE.cell (p := ⟨w.heap.size + 1, 1, none⟩) (v := .int .i64 (b)) (by simp [go_sem]))
  have p_2 := hid (hE.cell (p := ⟨w.heap.size + 1, 2, none⟩) (v := .int .i64 (le)) (by simp [go_sem]))
  have p_3 := hid (hE.cell (p := ⟨w.heap.size + 1, 3, none⟩) (v := .int .i64 (co)) (by simp [go_sem]))
  replace hM := hid (hM.out.ext X.out)
  obtain ⟨T, hT⟩ : ∃ T, w.heap.size = T := ⟨_, rfl⟩
  rw [hT] at t_0 t_1 p_0 p_1 p_2 p_3 ⊢
  clear hE hf hT
  have o0 := t_0.out
  have lo0 := cell_lt o0; dsimp only at lo0
  have o1 := t_1.out
  go_wp2_with fail
  refine name_c (fun v1 hv => ?_)
  have x1 : Ext w1 v1 := by rw [hv]; exact exE
  replace X := hid (X.out.trans x1); replace hM := hid (hM.out.ext x1); replace t_0 := hid (x1.cell t_0.out); replace t_1 := hid (x1.cell t_1.out)
  replace p_0 := hid (x1.cell p_0.out); replace p_1 := hid (x1.cell p_1.out); replace p_2 := hid (x1.cell p_2.out); replace p_3 := hid (x1.cell p_3.out)
  clear o0 lo0 o1
  clear hv x1
  refine (hL.out _ hM.out).mono ?_; rintro e u2 ⟨rfl, hE⟩
  replace X := hid (X.out.trans hE); replace hM := hid (hM.out.ext hE); replace t_0 := hid (hE.cell t_0.out); replace t_1 := hid (hE.cell t_1.out)
  replace p_0 := hid (hE.cell p_0.out); replace p_1 := hid (hE.cell p_1.out); replace p_2 := hid (hE.cell p_2.out); replace p_3 := hid (hE.cell p_3.out)
  clear hE
  have o0 := t_0.out
  have lo0 := cell_lt o0; dsimp only at lo0
  have o1 := t_1.out
  go_wp2_with fail
  refine name_c (fun v3 hv => ?_)
  have x1 : Ext u2 v3 := by rw [hv]; exact exE
  have b11_0 := hid (show v3.cell? ⟨u2.heap.size, 0, none⟩ = some (.int .i64 (LN)) by rw [hv]; simp [go_sem])
  have b11_1 := hid (show v3.cell? ⟨u2.heap.size, 1, none⟩ = some (.int .i64 (LD)) by rw [hv]; simp [go_sem])
  replace X := hid (X.out.trans x1); replace hM := hid (hM.out.ext x1); replace t_0 := hid (x1.cell t_0.out); replace t_1 := hid (x1.cell t_1.out)
  replace p_0 := hid (x1.cell p_0.out); replace p_1 := hid (x1.cell p_1.out); replace p_2 := hid (x1.cell p_2.out); replace p_3 := hid (x1.cell p_3.out)
  clear o0 lo0 o1
  clear hv x1
  obtain ⟨Bb11, hBn⟩ : ∃ z, u2.heap.size = z := ⟨_, rfl⟩
  rw [hBn] at b11_0 b11_1 ⊢
  clear hBn
  refine (hNv.out _ hM.out).mono ?_; rintro e u4 ⟨rfl, hE⟩
  replace X := hid (X.out.trans hE); replace hM := hid (hM.out.ext hE); replace t_0 := hid (hE.cell t_0.out); replace t_1 := hid (hE.cell t_1.out)
  replace p_0 := hid (hE.cell p_0.out); replace p_1 := hid (hE.cell p_1.out); replace p_2 := hid (hE.cell p_2.out); replace p_3 := hid (hE.cell p_3.out)
  replace b11_0 := hid (hE.cell b11_0.out); replace b11_1 := hid (hE.cell b11_1.out)
  clear hE
  have o0 := t_0.out
  have lo0 := cell_lt o0; dsimp only at lo0
  have o1 := t_1.out
  have o2 := p_0.out
  have lo2 := cell_lt o2; dsimp only at lo2
  have o3 := p_1.out
  have o4 := p_2.out
  have o5 := p_3.out
  go_wp2_with fail
  refine name_c (fun v5 hv => ?_)
  have x1 : Ext u4 v5 := by rw [hv]; exact exE
  have b14_0 := hid (show v5.cell? ⟨u4.heap.size, 0, none⟩ = some (.int .i64 (nth NX 0)) by rw [hv]; simp [go_sem])
  have b14_1 := hid (show v5.cell? ⟨u4.heap.size, 1, none⟩ = some (.int .i64 (nth NX 1)) by rw [hv]; simp [go_sem])
  have b14_2 := hid (show v5.cell? ⟨u4.heap.size, 2, none⟩ = some (.int .i64 (nth NX 2)) by rw [hv]; simp [go_sem])
  have b14_3 := hid (show v5.cell? ⟨u4.heap.size, 3, none⟩ = some (.int .i64 (nth NX 3)) by rw [hv]; simp [go_sem])
  replace X := hid (X.out.trans x1); replace hM := hid (hM.out.ext x1); replace t_0 := hid (x1.cell t_0.out); replace t_1 := hid (x1.cell t_1.out)
  replace p_0 := hid (x1.cell p_0.out); replace p_1 := hid (x1.cell p_1.out); replace p_2 := hid (x1.cell p_2.out); replace p_3 := hid (x1.cell p_3.out)
  replace b11_0 := hid (x1.cell b11_0.out); replace b11_1 := hid (x1.cell b11_1.out)
  clear o0 lo0 o1 o2 lo2 o3 o4 o5
  clear hv x1
  obtain ⟨Bb14, hBn⟩ : ∃ z, u4.heap.size = z := ⟨_, rfl⟩
  rw [hBn] at b14_0 b14_1 b14_2 b14_3 ⊢
  clear hBn
  refine (hNp.out _ hM.out).mono ?_; rintro e u6 ⟨rfl, hE⟩
  replace X := hid (X.out.trans hE); replace hM := hid (hM.out.ext hE); replace t_0 := hid (hE.cell t_0.out); replace t_1 := hid (hE.cell t_1.out)
  replace p_0 := hid (hE.cell p_0.out); replace p_1 := hid (hE.cell p_1.out); replace p_2 := hid (hE.cell p_2.out); replace p_3 := hid (hE.cell p_3.out)
  replace b11_0 := hid (hE.cell b11_0.out); replace b11_1 := hid (hE.cell b11_1.out); replace b14_0 := hid (hE.cell b14_0.out); replace b14_1 := hid (hE.cell b14_1.out)
  replace b14_2 := hid (hE.cell b14_2.out); replace b14_3 := hid (hE.cell b14_3.out)
  clear hE
  go_upto_region 6 with (fail)
  refine name_wp (fun v7 hv => ?_)
  have x1 : Ext u6 v7 := by rw [hv]; exact exE
  replace X := hid (X.out.trans x1); replace hM := hid (hM.out.ext x1); replace t_0 := hid (x1.cell t_0.out); replace t_1 := hid (x1.cell t_1.out)
  replace p_0 := hid (x1.cell p_0.out); replace p_1 := hid (x1.cell p_1.out); replace p_2 := hid (x1.cell p_2.out); replace p_3 := hid (x1.cell p_3.out)
  replace b11_0 := hid (x1.cell b11_0.out); replace b11_1 := hid (x1.cell b11_1.out); replace b14_0 := hid (x1.cell b14_0.out); replace b14_1 := hid (x1.cell b14_1.out)
  replace b14_2 := hid (x1.cell b14_2.out); replace b14_3 := hid (x1.cell b14_3.out)
  clear hv x1
  refine wp_mono (Q := calmS _) ?_ calmS_of
  refine wp_region_held_drew (S := fun w' => Ext v7 w') (by kernel_rfl) exE fun hHeld => ?_
  try simp only [List.append_eq, List.cons_append, List.nil_append]
  (refine tkA (i := 0) (v := ?_) rfl (fun _ _ _ h => h) (Or.inl ⟨by rfl, ?yl⟩) (by assumption) ?_; (case yl => ((intro w hSw; (try dsimp only at hSw);  go_simp); with_reducible rfl)); (try simp only [sxA, sxB, sxC, Act.put, sxD, sxE, sxF]))
  (refine tkA (i := 1) (v := ?_) rfl (fun _ _ _ h => h) (Or.inl ⟨by rfl, ?yl⟩) (by assumption) ?_; (case yl => ((intro w hSw; (try dsimp only at hSw); have kk0 := hSw.cell t_0.out; have kk1 := hSw.cell t_1.out; go_simp); with_reducible rfl)); (try simp only [sxA, sxB, sxC, Act.put, sxD, sxE, sxF]))
  (refine tkA (i := 2) (v := ?_) rfl (fun _ _ _ h => h) (Or.inl ⟨by rfl, ?yl⟩) (by assumption) ?_; (case yl => ((intro w hSw; (try dsimp only at hSw);  go_simp); with_reducible rfl)); (try simp only [sxA, sxB, sxC, Act.put, sxD, sxE, sxF]))
  (refine tkA (i := 3) (v := ?_) rfl (fun _ _ _ h => h) (Or.inl ⟨by rfl, ?yl⟩) (by assumption) ?_; (case yl => ((intro w hSw; (try dsimp only at hSw);  go_simp); with_reducible rfl)); (try simp only [sxA, sxB, sxC, Act.put, sxD, sxE, sxF]))
  (refine tkA (i := 4) (v := ?_) rfl (fun _ _ _ h => h) (Or.inl ⟨by rfl, ?yl⟩) (by assumption) ?_; (case yl => ((intro w hSw; (try dsimp only at hSw);  go_simp); with_reducible rfl)); (try simp only [sxA, sxB, sxC, Act.put, sxD, sxE, sxF]))
  (refine tkA (i := 5) (v := ?_) rfl (fun _ _ _ h => h) (Or.inl ⟨by rfl, ?yl⟩) (by assumption) ?_; (case yl => ((intro w hSw; (try dsimp only at hSw);  go_simp); with_reducible rfl)); (try simp only [sxA, sxB, sxC, Act.put, sxD, sxE, sxF]))
  (refine wpAnyH_ready (rs := [6]) (by kernel_rfl) (by simp) ?_; refine AllReadyH.cons (o := _) rfl (fun K hK => ?_) AllReadyH.nil)
  go_simp
  refine (hmxx.out _ (X.out.trans (show Ext v7 _ from exE))).mono ?_; rintro e u8 ⟨a1, k1, rfl, hI, hE⟩
  have xu8 : Ext v7 u8 := exE
  clear hE
  rw [xl.out]
  replace hI := hid hI
  refine hK.out _ _ xu8 (fun hHeld => ?_)
  clear hK K
  (try simp only [sxA, sxB, sxC, Act.put, sxD, sxE, sxF])
  (refine wpAnyH_ready (rs := [7]) (by kernel_rfl) (by simp) ?_; refine AllReadyH.cons (o := _) rfl (fun K hK => ?_) AllReadyH.nil)
  go_simp
  refine (hD1.out _ _ _ (hM.out.ext (show Ext v7 _ from exE)) (hI.out.ext exE)).mono ?_; rintro e u9 ⟨rfl, hE⟩
  have xu9 : Ext v7 u9 := exE
  clear hE
  refine hK.out _ _ xu9 (fun hHeld => ?_)
  clear hK K
  (try simp only [sxA, sxB, sxC, Act.put, sxD, sxE, sxF])
  (refine tkA (i := 8) (v := ?_) rfl (fun _ _ _ h => h) (Or.inl ⟨by rfl, ?yl⟩) (by assumption) ?_; (case yl => ((intro w hSw; (try dsimp only at hSw);  go_simp); with_reducible rfl)); (try simp only [sxA, sxB, sxC, Act.put, sxD, sxE, sxF]))
  refine wpAnyH_done (by kernel_rfl) ?_ _
  simp only [calmS]
  replace X := hid (X.out.trans xu9); replace hM := hid (hM.out.ext xu9); replace t_0 := hid (xu9.cell t_0.out); replace t_1 := hid (xu9.cell t_1.out)
  replace p_0 := hid (xu9.cell p_0.out); replace p_1 := hid (xu9.cell p_1.out); replace p_2 := hid (xu9.cell p_2.out); replace p_3 := hid (xu9.cell p_3.out)
  replace b11_0 := hid (xu9.cell b11_0.out); replace b11_1 := hid (xu9.cell b11_1.out); replace b14_0 := hid (xu9.cell b14_0.out); replace b14_1 := hid (xu9.cell b14_1.out)
  replace b14_2 := hid (xu9.cell b14_2.out); replace b14_3 := hid (xu9.cell b14_3.out)
  clear hHeld
  have o0 := t_0.out
  have lo0 := cell_lt o0; dsimp only at lo0
  have o1 := t_1.out
  have o2 := p_0.out
  have lo2 := cell_lt o2; dsimp only at lo2
  have o3 := p_1.out
  have o4 := p_2.out
  have o5 := p_3.out
  go_wp2_with fail
  refine name_c (fun v10 hv => ?_)
  have x1 : Ext u9 v10 := by rw [hv]; exact exE
  replace X := hid (X.out.trans x1); replace hM := hid (hM.out.ext x1); replace t_0 := hid (x1.cell t_0.out); replace t_1 := hid (x1.cell t_1.out)
  replace p_0 := hid (x1.cell p_0.out); replace p_1 := hid (x1.cell p_1.out); replace p_2 := hid (x1.cell p_2.out); replace p_3 := hid (x1.cell p_3.out)
  replace b11_0 := hid (x1.cell b11_0.out); replace b11_1 := hid (x1.cell b11_1.out); replace b14_0 := hid (x1.cell b14_0.out); replace b14_1 := hid (x1.cell b14_1.out)
  replace b14_2 := hid (x1.cell b14_2.out); replace b14_3 := hid (x1.cell b14_3.out)
  clear o0 lo0 o1 o2 lo2 o3 o4 o5
  clear hv x1
  refine (hNpR.out _ hM.out).mono ?_; rintro e u11 ⟨rfl, hE⟩
  replace X := hid (X.out.trans hE); replace hM := hid (hM.out.ext hE); replace t_0 := hid (hE.cell t_0.out); replace t_1 := hid (hE.cell t_1.out)
  replace p_0 := hid (hE.cell p_0.out); replace p_1 := hid (hE.cell p_1.out); replace p_2 := hid (hE.cell p_2.out); replace p_3 := hid (hE.cell p_3.out)
  replace b11_0 := hid (hE.cell b11_0.out); replace b11_1 := hid (hE.cell b11_1.out); replace b14_0 := hid (hE.cell b14_0.out); replace b14_1 := hid (hE.cell b14_1.out)
  replace b14_2 := hid (hE.cell b14_2.out); replace b14_3 := hid (hE.cell b14_3.out)
  clear hE
  have o0 := t_0.out
  have lo0 := cell_lt o0; dsimp only at lo0
  have o1 := t_1.out
  have o2 := b14_0.out
  have lo2 := cell_lt o2; dsimp only at lo2
  have o3 := b14_1.out
  have o4 := b14_2.out
  have o5 := b14_3.out
  go_wp2_with fail
  refine name_c (fun v12 hv => ?_)
  have x1 : Ext u11 v12 := by rw [hv]; exact exE
  replace X := hid (X.out.trans x1); replace hM := hid (hM.out.ext x1); replace t_0 := hid (x1.cell t_0.out); replace t_1 := hid (x1.cell t_1.out)
  replace p_0 := hid (x1.cell p_0.out); replace p_1 := hid (x1.cell p_1.out); replace p_2 := hid (x1.cell p_2.out); replace p_3 := hid (x1.cell p_3.out)
  replace b11_0 := hid (x1.cell b11_0.out); replace b11_1 := hid (x1.cell b11_1.out); replace b14_0 := hid (x1.cell b14_0.out); replace b14_1 := hid (x1.cell b14_1.out)
  replace b14_2 := hid (x1.cell b14_2.out); replace b14_3 := hid (x1.cell b14_3.out)
  clear o0 lo0 o1 o2 lo2 o3 o4 o5
  clear hv x1
  refine (hNw.out hw0.out _ hM.out).mono ?_; rintro e u13 ⟨rfl, hE⟩
  replace X := hid (X.out.trans hE); replace hM := hid (hM.out.ext hE); replace t_0 := hid (hE.cell t_0.out); replace t_1 := hid (hE.cell t_1.out)
  replace p_0 := hid (hE.cell p_0.out); replace p_1 := hid (hE.cell p_1.out); replace p_2 := hid (hE.cell p_2.out); replace p_3 := hid (hE.cell p_3.out)
  replace b11_0 := hid (hE.cell b11_0.out); replace b11_1 := hid (hE.cell b11_1.out); replace b14_0 := hid (hE.cell b14_0.out); replace b14_1 := hid (hE.cell b14_1.out)
  replace b14_2 := hid (hE.cell b14_2.out); replace b14_3 := hid (hE.cell b14_3.out)
  clear hE
  have o0 := t_0.out
  have lo0 := cell_lt o0; dsimp only at lo0
  have o1 := t_1.out
  have o2 := b14_0.out
  have lo2 := cell_lt o2; dsimp only at lo2
  have o3 := b14_1.out
  have o4 := b14_2.out
  have o5 := b14_3.out
  go_wp2_with fail
  refine name_c (fun v14 hv => ?_)
  have x1 : Ext u13 v14 := by rw [hv]; exact exE
  replace X := hid (X.out.trans x1); replace hM := hid (hM.out.ext x1); replace t_0 := hid (x1.cell t_0.out); replace t_1 := hid (x1.cell t_1.out)
  replace p_0 := hid (x1.cell p_0.out); replace p_1 := hid (x1.cell p_1.out); replace p_2 := hid (x1.cell p_2.out); replace p_3 := hid (x1.cell p_3.out)
  replace b11_0 := hid (x1.cell b11_0.out); replace b11_1 := hid (x1.cell b11_1.out); replace b14_0 := hid (x1.cell b14_0.out); replace b14_1 := hid (x1.cell b14_1.out)
  replace b14_2 := hid (x1.cell b14_2.out); replace b14_3 := hid (x1.cell b14_3.out)
  clear o0 lo0 o1 o2 lo2 o3 o4 o5
  clear hv x1
  refine (hNwR.out hw0.out _ hM.out).mono ?_; rintro e u15 ⟨rfl, hE⟩
  replace X := hid (X.out.trans hE); replace hM := hid (hM.out.ext hE); replace t_0 := hid (hE.cell t_0.out); replace t_1 := hid (hE.cell t_1.out)
  replace p_0 := hid (hE.cell p_0.out); replace p_1 := hid (hE.cell p_1.out); replace p_2 := hid (hE.cell p_2.out); replace p_3 := hid (hE.cell p_3.out)
  replace b11_0 := hid (hE.cell b11_0.out); replace b11_1 := hid (hE.cell b11_1.out); replace b14_0 := hid (hE.cell b14_0.out); replace b14_1 := hid (hE.cell b14_1.out)
  replace b14_2 := hid (hE.cell b14_2.out); replace b14_3 := hid (hE.cell b14_3.out)
  clear hE
  go_wp2_with fail
  refine (works_any _).mono ?_; rintro e w9 ⟨rfl, hE9⟩
  have X9 := hid (X.out.trans (show Ext u15 w9 from exE))
  go_wp2_with fail
  go_ret
  exact ⟨rfl, X9.out⟩
end Go.Proofs.Ytpnfhcnnodolbaa
