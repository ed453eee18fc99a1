/- Texts of one proof, laid together: Box. -/
import Derived.Test.YtpnfhcnnodolbaaZY7
import Derived.Test.YtpnfhcnnodolbaaZY8
import Derived.Deep.RegionHeld
set_option linter.unusedVariables false
set_option linter.unusedSimpArgs false
set_option linter.unusedSectionVars false
set_option linter.unnecessarySimpa false
namespace Go.Proofs.Ytpnfhcnnodolbaa
open Go Go.RowKit
structure Bx2 (W : World) (b : Nat) (p q : Int) : Prop where
 c0 : W.cell? ⟨b, 0, none⟩ = some (.int .i64 p)
 c1 : W.cell? ⟨b, 1, none⟩ = some (.int .i64 q)
 f0 : W.frozen? ⟨b, 0, none⟩ = false
 f1 : W.frozen? ⟨b, 1, none⟩ = false
theorem Bx2.ext {W W' : World} {b : Nat} {p q : Int} (h : Bx2 W b p q) (k : Ext W W') : Bx2 W' b p q :=
 ⟨k.cell h.c0, k.cell h.c1, (k.frozen (cell_lt h.c0)).trans h.f0, (k.frozen (cell_lt h.c1)).trans h.f1⟩
theorem Bx2.lt {W : World} {b : Nat} {p q : Int} (h : Bx2 W b p q) : b < W.heap.size := cell_lt h.c0
theorem Bx2.store {W : World} {b : Nat} {p q : Int} (h : Bx2 W b p q) (x y : Int) : Bx2 ((W.setCell ⟨b, 0, none⟩ (.int .i64 x)).setCell ⟨b, 1, none⟩ (.int .i64 y)) b x y := by
 refine ⟨?_, ?_, ?_, ?_⟩
 ·rw [World.cell?_setCell_other _ _ _ _ (by simp)]; exact cell_put_eq h.c0
 ·exact cell_put_eq (u := .int .i64 q) (by rw [World.cell?_setCell_other _ _ _ _ (by simp)]; exact h.c1)
 ·rw [World.frozen?_setCell, World.frozen?_setCell]; exact h.f0
 ·rw [World.frozen?_setCell, World.frozen?_setCell]; exact h.f1
theorem Bx2.put {W : World} {b c o : Nat} {p q : Int} (h : Bx2 W b p q) (hne : b ≠ c) (v : Value) : Bx2 (W.setCell ⟨c, o, none⟩ v) b p q := by
 refine ⟨?_, ?_, ?_, ?_⟩
 ·rw [World.cell?_setCell_far _ _ _ _ (Ne.symm hne)]; exact h.c0
 ·rw [World.cell?_setCell_far _ _ _ _ (Ne.symm hne)]; exact h.c1
 ·rw [World.frozen?_setCell]; exact h.f0
 ·rw [World.frozen?_setCell]; exact h.f1
end Go.Proofs.Ytpnfhcnnodolbaa
