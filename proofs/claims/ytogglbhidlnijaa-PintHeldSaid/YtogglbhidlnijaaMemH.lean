/- Slices of bytes as lists of numbers. Plain facts on worlds. -/
import Derived.Test.YtogglbhidlnijaaMem
namespace Go.Proofs.Ytogglbhidlnijaa
set_option linter.unusedVariables false
set_option linter.unusedSimpArgs false
set_option linter.unusedSectionVars false
set_option linter.unnecessarySimpa false
open Go Go.RowKit

/-- From the address 'a' on lie the bytes 'l'. -/
def Byts (w : World) (a : Option Addr) (l : List Int) : Prop :=
  ∀ i, i < l.length → ∃ b off, a = some ⟨b, off, none⟩ ∧ w.cell? ⟨b, off + i, none⟩ = some (.int .u8 (nth l i))
theorem Byts.ext {w w' : World} {a : Option Addr} {l : List Int} (h : Byts w a l) (k : Ext w w') : Byts w' a l :=
  fun i hi => let ⟨b, off, ha, hc⟩ := h i hi; ⟨b, off, ha, k.cell hc⟩
theorem Byts.nil (w : World) (a : Option Addr) : Byts w a [] := fun i hi => absurd hi (by simp)
theorem Byts.at {w : World} {a : Option Addr} {l : List Int} (h : Byts w a l) (hl : 0 < l.length) :
    ∃ b off, a = some ⟨b, off, none⟩ ∧ b < w.heap.size ∧ ∀ i, i < l.length → w.cell? ⟨b, off + i, none⟩ = some (.int .u8 (nth l i)) := by
  obtain ⟨b, off, ha, hc⟩ := h 0 hl
  refine ⟨b, off, ha, cell_lt hc, fun i hi => ?_⟩
  obtain ⟨b', off', ha', hc'⟩ := h i hi
  rw [ha] at ha'
  cases ha'
  exact hc'

end Go.Proofs.Ytogglbhidlnijaa
