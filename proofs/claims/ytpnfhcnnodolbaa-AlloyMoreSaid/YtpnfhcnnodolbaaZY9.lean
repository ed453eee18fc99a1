/- Texts of one proof, laid together: Arr. -/
import Derived.Test.YtpnfhcnnodolbaaZY4
import Derived.Lib.SliceRun
set_option linter.unusedVariables false
set_option linter.unusedSimpArgs false
set_option linter.unusedSectionVars false
set_option linter.unnecessarySimpa false
namespace Go.Proofs.Ytpnfhcnnodolbaa
open Go Go.RowKit
theorem setCell_self {w : World} {b o : Nat} {v : Value} (h : w.cell? ⟨b, o, none⟩ = some v) : w.setCell ⟨b, o, none⟩ v = w := by
 unfold World.cell? at h
 unfold World.setCell
 have : w.heap.modify b (fun x => match x with | .cells c elem frozen => .cells (c.setIfInBounds o v) elem frozen | x => x) = w.heap := by
  apply Array.ext_getElem?
  intro i
  rw [Array.getElem?_modify]
  split
  ·rename_i e
   subst e
   dsimp only at h
   cases hb : w.heap[b]? with
   | none => rfl
   | some ob =>
    rw [hb] at h
    cases ob with
    | cells c elem fz =>
     simp at h
     simp only [Option.map_some, Option.some.injEq, Obj.cells.injEq, and_true]
     apply Array.ext_getElem?
     intro j
     rw [Array.getElem?_setIfInBounds]
     split
     ·rename_i e; subst e
      rw [if_pos (Array.getElem?_eq_some_iff.1 h).1, h]
     ·rfl
    | _ => rfl
  ·rfl
 exact congrArg (fun hp => ({ w with heap := hp } : World)) this
theorem setCells_self {b : Nat} : ∀ (vs : List Value) (o : Nat) (w : World), (∀ j u, vs[j]? = some u → w.cell? ⟨b, o + j, none⟩ = some u) → w.setCells b o vs = w
 | [], _, _, _ => rfl
 | v :: vs, o, w, h => by
  have h0 := h 0 v rfl
  simp only [World.setCells]
  rw [setCell_self (by simpa using h0)]
  exact setCells_self vs (o + 1) w fun j u hu => by
   have := h (j + 1) u hu
   rwa [show o + (j + 1) = o + 1 + j by omega] at this
structure Arr3 (w : World) (X : Nat) (f : Nat → Int) : Prop where
 c : ∀ k, k < 3 → w.cell? ⟨X, k, none⟩ = some (.int .i64 (f k))
 f : ∀ k, k < 3 → w.frozen? ⟨X, k, none⟩ = false
 l : X < w.heap.size
theorem Arr3.ext {w w' : World} {X : Nat} {f : Nat → Int} (h : Arr3 w X f) (k : Ext w w') : Arr3 w' X f :=
 ⟨fun i hi => k.cell (h.c i hi), fun i hi => (k.frozen h.l).trans (h.f i hi), Nat.lt_of_lt_of_le h.l k.size⟩
theorem Arr3.congr {w : World} {X : Nat} {f g : Nat → Int} (h : Arr3 w X f) (e : ∀ k, k < 3 → f k = g k) : Arr3 w X g :=
 ⟨fun i hi => by rw [← e i hi]; exact h.c i hi, h.f, h.l⟩
theorem Arr3.set {w : World} {X : Nat} {f : Nat → Int} (h : Arr3 w X f) {j : Nat} (hj : j < 3) (y : Int) : Arr3 (w.setCell ⟨X, j, none⟩ (.int .i64 y)) X (fun k => if k = j then y else f k) := by
 refine ⟨fun k hk => ?_, fun k hk => ?_, by simpa using h.l⟩
 ·by_cases e : k = j
  ·subst e; simp [go_sem, h.c k hk]
  ·have e2 : ¬ j = k := fun h => e h.symm
   simp [go_sem, h.c k hk, e, e2]
 ·have := h.f k hk
  simpa [go_sem] using this
end Go.Proofs.Ytpnfhcnnodolbaa
