/- Texts of one proof, laid together: Ord. -/
import Derived.OrdersHeld
import Derived.Deep.RegionHeld3
set_option linter.unusedVariables false
set_option linter.unusedSimpArgs false
set_option linter.unusedSectionVars false
set_option linter.unnecessarySimpa false
namespace Go.Proofs.Ytpnfhcnnodolbaa
open Go
section
variable {P : Program} {ops : Array Oper} {Q : Exit → Act → World → Prop} {md : Region.Mode} {S : Array Bool → World → Prop}
def Shutd (md : Region.Mode) (ops : Array Oper) (l : Array Bool) : Prop :=
 ∀ j o, ops[j]? = some o → l.getD j false = true → ∀ e ∈ o.after, Region.binds md e = true → l.getD e.on false = true
def shutdB (md : Region.Mode) (ops : Array Oper) (l : Array Bool) : Bool :=
 (List.range ops.size).all fun j => match ops[j]? with
  | some o => !l.getD j false || o.after.all fun e => !Region.binds md e || l.getD e.on false
  | none => true
theorem shutd_of {l : Array Bool} (h : shutdB md ops l = true) : Shutd md ops l := by
 intro j o ho hj e he hb
 have h1 := List.all_eq_true.1 h j (List.mem_range.2 (Array.getElem?_eq_some_iff.1 ho).1)
 simp only [ho, hj, Bool.not_true, Bool.false_or] at h1
 have h2 := Array.all_eq_true'.1 h1 e he
 simpa [hb] using h2
theorem Shutd.set {l : Array Bool} (h : Shutd md ops l) {i : Nat} (hi : i ∈ Region.ready md ops l) : Shutd md ops (l.setIfInBounds i true) := by
 intro j o ho hj e he hb
 by_cases hij : i = j
 ·subst hij
  obtain ⟨_, oi, hoi, hall⟩ := mem_ready.1 hi
  have : o = oi := Option.some.inj (ho.symm.trans hoi)
  subst this
  exact getD_set_true (hall e he hb)
 ·rw [getD_set_ne false hij] at hj
  exact getD_set_true (h j o ho hj e he hb)
def leadsB (md : Region.Mode) (ops : Array Oper) (i : Nat) : Nat → Nat → Bool
 | 0, _ => false
 | f + 1, j => match ops[j]? with
  | some o => o.after.any fun e => Region.binds md e && (e.on == i || leadsB md ops i f e.on)
  | none => false
theorem leads_spec {i : Nat} {l : Array Bool} (hc : Shutd md ops l) (hi : l.getD i false = false) : ∀ f j, leadsB md ops i f j = true → l.getD j false = false
 | 0, _, h => by cases h
 | f + 1, j, h => by
  unfold leadsB at h
  split at h
  ·rename_i o ho
   obtain ⟨e, he, hb⟩ := Array.any_eq_true'.1 h
   simp only [Bool.and_eq_true, Bool.or_eq_true, beq_iff_eq] at hb
   have hon : l.getD e.on false = false := by
    rcases hb.2 with g | g
    ·rw [g]; exact hi
    ·exact leads_spec hc hi f _ g
   cases hj : l.getD j false with
   | false => rfl
   | true => have := hc j o ho hj e he hb.1; rw [hon] at this; cases this
  ·cases h
def wpAnyT (P : Program) (md : Region.Mode) (ops : Array Oper) (Q : Exit → Act → World → Prop) (S : Array Bool → World → Prop) : Nat → Array Bool → Act → World → Prop
 | 0, l, a, w => Region.ready md ops l = [] ∧ Q .normal a w
 | f + 1, l, a, w => (Region.ready md ops l = [] → Q .normal a w) ∧
  ∀ i ∈ Region.ready md ops l, wpOp P ops Q i (fun a' w' => S (l.setIfInBounds i true) w' ∧ wpAnyT P md ops Q S f (l.setIfInBounds i true) a' w') a w
theorem wpAny_of_told : ∀ (f : Nat) (l : Array Bool) (a : Act) (w : World), wpAnyT P md ops Q S f l a w → wpAny P md ops Q f l a w
 | 0, _, _, _, h => h
 | f + 1, _, _, _, h => ⟨h.1, fun i hi => wpOp_mono (fun a' w' k => wpAny_of_told f _ a' w' k.2) (h.2 i hi)⟩
theorem unlisted {l : Array Bool} {i : Nat} (h : l.getD i true = false) : l.getD i false = false := by
 rcases Nat.lt_or_ge i l.size with h' | h'
 ·simp [h'] at h ⊢; exact h
 ·simp [Array.getElem?_eq_none h'] at h
theorem wpAnyT_first {i : Nat} {oi : Oper} {v : Value} {T : World → Prop} (hi : ops[i]? = some oi) (hsel : ∀ (j : Nat) (o : Oper) cs b, ops[j]? = some o → o.op ≠ .select cs b)
 (hQ : ∀ c a w, Q (.panic c) (a.put oi.dst v) w → Q (.panic c) a w)
 (hT : ∀ l w, Shutd md ops l → l.getD i false = false → S l w → T w) (hind : ∀ l w, S (l.setIfInBounds i true) w ↔ S l w) :
 ∀ (f : Nat) (l : Array Bool) (a : Act) (w : World), Shutd md ops l →
  (∀ j oj, ops[j]? = some oj → j ≠ i → l.getD j true = false → (∀ e ∈ oj.after, Region.binds md e = true → e.on ≠ i) → oi.apart ops oj = true) →
  i ∈ Region.ready md ops l → YieldsIf P ops T oi v a → S l w →
  wpAnyT P md ops Q S f (l.setIfInBounds i true) (a.put oi.dst v) w → wpAnyT P md ops Q S (f + 1) l a w := by
 intro f
 induction f with
 | zero =>
  intro l a w hc _ hr hy hS H
  refine ⟨fun h => (by rw [h] at hr; cases hr), fun j hj => ?_⟩
  by_cases e : j = i
  ·subst e; exact hy.wpOp hi (hT l w hc (unlisted (mem_ready.1 hr).1) hS) ⟨(hind l w).2 hS, H⟩
  ·have := ready_mono hj e
   rw [H.1] at this
   cases this
 | succ f ih =>
  intro l a w hc hfree hr hy hS H
  refine ⟨fun h => (by rw [h] at hr; cases hr), fun j hj => ?_⟩
  by_cases e : j = i
  ·subst e; exact hy.wpOp hi (hT l w hc (unlisted (mem_ready.1 hr).1) hS) ⟨(hind l w).2 hS, H⟩
  ·obtain ⟨hju, oj, hoj, hall⟩ := mem_ready.1 hj
   have hno : ∀ e ∈ oj.after, Region.binds md e = true → e.on ≠ i := fun e he hb heq => by
    have h1 := hall e he hb
    rw [heq, unlisted (mem_ready.1 hr).1] at h1
    cases h1
   have h2 := wpOp_putIf hoj (hfree j oj hoj e hju hno) (fun cs b => hsel i oi cs b hi) (fun cs b => hsel j oj cs b hoj) hQ hy (H.2 j (ready_mono hj e))
   refine wpOp_mono (fun a' w' k => ?_) h2
   obtain ⟨k1, k2, k3⟩ := k
   rw [Array.setIfInBounds_comm _ _ (Ne.symm e)] at k2 k3
   have k4 := (hind _ _).1 k2
   refine ⟨k4, ih (l.setIfInBounds j true) a' w' (hc.set hj) (fun n on hon hni hun hn => ?_) (ready_mono hr (Ne.symm e)) k1 k4 k3⟩
   refine hfree n on hon hni ?_ hn
   by_cases hjn : j = n
   ·subst hjn; exact hju
   ·rw [getD_set_ne true hjn] at hun; exact hun
theorem wpAnyT_take {i : Nat} {oi : Oper} {v : Value} {T : World → Prop} {f : Nat} {l : Array Bool} {a : Act} {w : World} (hi : ops[i]? = some oi)
 (hs : Region.noSelect ops = true) (hc : shutdB md ops l = true) (hf : Region.free md ops l i = true) (hr : (Region.ready md ops l).contains i = true)
 (hQ : ∀ c a w, Q (.panic c) (a.put oi.dst v) w → Q (.panic c) a w)
 (hT : ∀ l w, Shutd md ops l → l.getD i false = false → S l w → T w) (hind : ∀ l w, S (l.setIfInBounds i true) w ↔ S l w) (hy : YieldsIf P ops T oi v a) (hS : S l w)
 (h : S (l.setIfInBounds i true) w → wpAnyT P md ops Q S f (l.setIfInBounds i true) (a.put oi.dst v) w) : wpAnyT P md ops Q S (f + 1) l a w :=
 wpAnyT_first hi (Region.noSelect_spec hs) hQ hT hind f l a w (shutd_of hc) (Region.free_spec hi hf) (by simpa using hr) hy hS (h ((hind l w).2 hS))
theorem wpAnyT_done {l : Array Bool} {a : Act} {w : World} (hr : Region.ready md ops l = []) (h : Q .normal a w) : ∀ f, wpAnyT P md ops Q S f l a w
 | 0 => ⟨hr, h⟩
 | _ + 1 => ⟨fun _ => h, by rw [hr]; simp⟩
def Back (p : Prop) : Prop := p
theorem Back.out {p : Prop} (h : Back p) : p := h
theorem wpAnyT_one {i : Nat} {o : Oper} {f : Nat} {l : Array Bool} {a : Act} {w : World} (hr : Region.ready md ops l = [i]) (ho : ops[i]? = some o)
 (h : ∀ K : Act → World → Prop, Back (∀ a w, S (l.setIfInBounds i true) w → (S (l.setIfInBounds i true) w → wpAnyT P md ops Q S f (l.setIfInBounds i true) a w) → K a w) → if Region.wanted o (yielded ops a.tmps) = true then Oper.wp P o a w K Q else K (a.put o.dst undef) w) :
 wpAnyT P md ops Q S (f + 1) l a w := by
 refine ⟨fun h0 => (by rw [h0] at hr; cases hr), fun j hj => ?_⟩
 rw [hr] at hj
 obtain rfl : j = i := by simpa using hj
 exact wpOp_step ho fun K hK => h K fun a w h1 h2 => hK a w ⟨h1, h2 h1⟩
theorem wp_region_told {id : Nat} {a : Act} {w : World} (S : Array Bool → World → Prop) (hm : P.follows .mixedOrders = true) (hS : S (Array.replicate ops.size false) w.drew)
 (h : S (Array.replicate ops.size false) w.drew → wpAnyT P .any ops Q S ops.size (Array.replicate ops.size false) a w.drew) : (Code.region id ops true).wp P Q a w :=
 wp_region_any hm (wpAny_of_told _ _ _ _ (h hS))
def Told (m n : Nat) (A B C : World → Prop) (l : Array Bool) (w : World) : Prop := (l.getD m false = false → A w) ∧ (l.getD n false = false → B w) ∧ C w
theorem Told.ind {m n : Nat} {A B C : World → Prop} {i : Nat} (h1 : i ≠ m) (h2 : i ≠ n) (l : Array Bool) (w : World) : Told m n A B C (l.setIfInBounds i true) w ↔ Told m n A B C l w := by
 unfold Told; rw [getD_set_ne false h1, getD_set_ne false h2]
theorem Told.a {m n i f : Nat} {A B C : World → Prop} (h : leadsB md ops i f m = true) (l : Array Bool) (w : World) (hc : Shutd md ops l) (hi : l.getD i false = false) (hS : Told m n A B C l w) : A w ∧ C w :=
 ⟨hS.1 (leads_spec hc hi f m h), hS.2.2⟩
theorem Told.b {m n i f : Nat} {A B C : World → Prop} (h : leadsB md ops i f n = true) (l : Array Bool) (w : World) (hc : Shutd md ops l) (hi : l.getD i false = false) (hS : Told m n A B C l w) : B w ∧ C w :=
 ⟨hS.2.1 (leads_spec hc hi f n h), hS.2.2⟩
theorem Told.c {m n : Nat} {A B C : World → Prop} {i : Nat} (l : Array Bool) (w : World) (hc : Shutd md ops l) (hi : l.getD i false = false) (hS : Told m n A B C l w) : C w := hS.2.2
theorem Told.past {m n : Nat} {A B C : World → Prop} {l : Array Bool} {w : World} (h1 : l.getD m false = true) (h2 : l.getD n false = true) (h3 : C w) : Told m n A B C l w :=
 ⟨(fun h => by rw [h1] at h; cases h), (fun h => by rw [h2] at h; cases h), h3⟩
theorem Told.all {m n : Nat} {A B C : World → Prop} {l : Array Bool} {w : World} (h1 : A w) (h2 : B w) (h3 : C w) : Told m n A B C l w := ⟨fun _ => h1, fun _ => h2, h3⟩
end
end Go.Proofs.Ytpnfhcnnodolbaa
