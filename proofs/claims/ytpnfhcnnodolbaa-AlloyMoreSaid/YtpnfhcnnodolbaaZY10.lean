/- Texts of one proof, laid together: Nam, Dag, Tk, Rgn, Rgc. -/
import Derived.Test.YtpnfhcnnodolbaaZY7
import Derived.OrdersHeld
import Derived.Test.YtpnfhcnnodolbaaZY2
set_option linter.unusedVariables false
set_option linter.unusedSimpArgs false
set_option linter.unusedSectionVars false
set_option linter.unnecessarySimpa false
namespace Go.Proofs.Ytpnfhcnnodolbaa
open Go Go.RowKit
theorem name_wp {P : Program} {c : Code} {Q : Exit → Act → World → Prop} {a : Act} {w : World} (h : ∀ W, W = w → Code.wp P c Q a W) : Code.wp P c Q a w := h w rfl
theorem name_act {P : Program} {c : Code} {Q : Exit → Act → World → Prop} {a : Act} {w : World} (h : ∀ A, A = a → Code.wp P c Q A w) : Code.wp P c Q a w := h a rfl
theorem name_any {P : Program} {md : Region.Mode} {ops : Array Oper} {Q : Exit → Act → World → Prop} {S : World → Prop} {f : Nat} {l : Array Bool} {a : Act} {w : World} (h : ∀ W, W = w → wpAnyH P md ops Q S f l a W) : wpAnyH P md ops Q S f l a w := h w rfl
theorem name_c {P : Program} {f : FuncId} {args : Array Value} {w : World} {R : Ending → World → Prop} (h : ∀ W, W = w → Calls P f args W R) : Calls P f args w R := h w rfl
theorem wpF_intro {P : Program} {md : Region.Mode} {ops : Array Oper} {Q : Exit → Act → World → Prop} {S : World → Prop} {f : Nat} {l : Array Bool} {a : Act} {w : World} (n : Nat) (hn : f = n)
 (h : ∀ F : Nat → Array Bool → Act → World → Prop, (∀ f l a w, F f l a w ↔ wpAnyH P md ops Q S f l a w) → F n l a w) : wpAnyH P md ops Q S f l a w := by
 subst hn
 exact h _ (fun _ _ _ _ => Iff.rfl)
theorem sxA {α : Type} {l : List α} {i : Nat} (h : i < l.toArray.size) : l.toArray[i] = l[i]'(by simpa using h) := List.getElem_toArray h
theorem sxB {α : Type} {a : α} {l : List α} {i : Nat} (h : i + 1 < (a :: l).length) : (a :: l)[i + 1] = l[i]'(Nat.lt_of_succ_lt_succ h) := rfl
theorem sxC {α : Type} {a : α} {l : List α} (h : 0 < (a :: l).length) : (a :: l)[0] = a := rfl
theorem sxD {α : Type} {l : List α} {i : Nat} {a : α} : l.toArray.setIfInBounds i a = (l.set i a).toArray := List.setIfInBounds_toArray ..
theorem sxE {α : Type} {x : α} {l : List α} {a : α} : (x :: l).set 0 a = a :: l := rfl
theorem sxF {α : Type} {x : α} {l : List α} {n : Nat} {a : α} : (x :: l).set (n + 1) a = x :: l.set n a := rfl
theorem xS {w w' : World} {p : Addr} (h : Ext w w') (v : Value) (hb : w.heap.size ≤ p.block := by first | (simp; done) | (simp; omega)) : Ext w (w'.setCell p v) := Ext.setCell h hb v
theorem xT {a b c : World} (h : Ext a b) (k : Ext b c) : Ext a c := Ext.trans h k
theorem tkA {P : Program} {md : Region.Mode} {ops : Array Oper} {Q : Exit → Act → World → Prop} {S : World → Prop} {i : Nat} {oi : Oper} {v : Value} {fuel : Nat} {listed : Array Bool} {a : Act} {w : World} (hi : ops[i]? = some oi)
 (hQ : ∀ c a w, Q (.panic c) (a.put oi.dst v) w → Q (.panic c) a w) (hy : YieldsIf P ops S oi v a) (hS : S w)
 (h : wpAnyH P md ops Q S fuel (listed.setIfInBounds i true) (a.put oi.dst v) w)
 (hs : Region.noSelect ops = true := by kernel_rfl) (hf : Region.free md ops listed i = true := by kernel_rfl) (hr : (Region.ready md ops listed).contains i = true := by kernel_rfl) : wpAnyH P md ops Q S (fuel + 1) listed a w :=
 wpAnyH_take hi hs hf hr hQ hy hS h
theorem tkB {P : Program} {md : Region.Mode} {ops : Array Oper} {Q : Exit → Act → World → Prop} {S : World → Prop} {i : Nat} {oi : Oper} {v : Value} {fuel : Nat} {listed : Array Bool} {a : Act} {w : World} (hi : ops[i]? = some oi)
 (hpan : ∀ c a a' w w', Q (.panic c) a w → Q (.panic c) a' w') (hy : ∀ w, S w → (execOp a.eval oi).run P w = .ok (.value v) w)
 (h : wpAnyH P md ops Q S fuel (listed.setIfInBounds i true) (a.put oi.dst v) w) (hw : Region.wanted oi (yielded ops a.tmps) = true := by rfl) (hS : S w := by assumption)
 (hs : Region.noSelect ops = true := by kernel_rfl) (hf : Region.free md ops listed i = true := by kernel_rfl) (hr : (Region.ready md ops listed).contains i = true := by kernel_rfl) : wpAnyH P md ops Q S (fuel + 1) listed a w :=
 wpAnyH_take hi hs hf hr (fun c a w h => hpan c _ _ _ _ h) (Or.inl ⟨hw, hy⟩) hS h
theorem exE {a b : World} (h : Ext a b := by repeat (with_reducible first | assumption | exact Ext.refl _ | refine Ext.drew ?_ | refine Ext.drewN ?_ _ | refine Ext.alloc ?_ _ | refine xS ?_ _ | refine xT ?_ (by assumption))) : Ext a b := h
def findR (n : Nat) : Code → Option Code
 | .region id ops d => if id = n then some (.region id ops d) else none
 | .seq a b => match findR n a with
  | some c => some c
  | none => findR n b
 | .cond _ a b => match findR n a with
  | some c => some c
  | none => findR n b
 | .block _ a => findR n a
 | .loop a => findR n a
 | .scope a => findR n a
 | .rangeFunc _ _ a b => match findR n a with
  | some c => some c
  | none => findR n b
 | _ => none
def rgn (f : Func) (n : Nat) : Code := match f.body with
 | some b => (findR n b).getD .skip
 | none => .skip
theorem st_intro {P : Program} {c : Code} {Q : Exit → Act → World → Prop} {a : Act} {w : World} (h : ∀ Q2, Q2 = Q → Code.wp P c Q2 a w) : Code.wp P c Q a w := h _ rfl
theorem tk_call {P : Program} {ops : Array Oper} {o : Oper} {a : Act} {w : World} {K : Act → World → Prop} {Q : Exit → Act → World → Prop} {f : FuncId} {args : Array Value} {R : Ending → World → Prop}
 (hw : Region.wanted o (yielded ops a.tmps) = true) (h : Calls P f args w R) (he : (execOp a.eval o).run P w = .ok (.enter f args) w)
 (hr : ∀ e w', R e w' → ∃ v, e = .returned v ∧ K (a.put o.dst v) w') :
 if Region.wanted o (yielded ops a.tmps) = true then Oper.wp P o a w K Q else K (a.put o.dst undef) w := by
 rw [if_pos hw]
 unfold Oper.wp
 rw [he, Oper.upon_enter]
 refine h.mono fun e w' hR => ?_
 obtain ⟨v, rfl, hK⟩ := hr e w' hR
 exact hK
end Go.Proofs.Ytpnfhcnnodolbaa
