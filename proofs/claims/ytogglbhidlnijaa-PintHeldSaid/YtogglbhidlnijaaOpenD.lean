/- A slice of bytes that came in, opened. -/
import Derived.Test.YtogglbhidlnijaaOpenC
import Derived.Test.YtogglbhidlnijaaMemH
namespace Go.Proofs.Ytogglbhidlnijaa
set_option linter.unusedVariables false
set_option linter.unusedSimpArgs false
set_option linter.unusedSectionVars false
set_option linter.unnecessarySimpa false
open Go Go.RowKit Go.ChangeShapes Go.WideShapes Go.ChangeAt Go.WideElems Go.Joins Go.Deep
set_option maxRecDepth 100000

theorem cellsOfByte : Try.prog.cellsOf 5 = 1 := by kernel_rfl
section
variable {H : Type} {enc : TypeId × Value → H} {W : World}

theorem open_bytes_cs {fuel : Nat} {cs : List Value} {x : DataW H × List MemPlace} {sp : Nat → Bool} {hd : Bool} (h : DataW.trod enc Try.prog W 0 sp hd fuel 78 cs = some x) :
    ∃ (l : List Int) (a : Option Addr) (cap : Nat), cs = [.slice a l.length cap] ∧ Byts W a l ∧ l.length ≤ cap ∧ cap ≤ maxLen ∧ ∀ i, 0 ≤ nth l i ∧ nth l i ≤ 255 := by
  rcases open_ints Try.underlying78 Try.underlying5 cellsOfByte h with ⟨rfl, _⟩ | ⟨a, len, cap, zs, rfl, _, hl, hm, hz, _, hc, hw⟩
  · exact ⟨[], none, 0, rfl, Byts.nil _ _, Nat.le_refl _, by simp [maxLen], fun i => by simp [nth]⟩
  · have hlen : len ≤ zs.length := by rw [hz]; split <;> omega
    refine ⟨zs.take len, some a, cap, by simp [Nat.min_eq_left hlen], fun i hi => ?_, by simp [Nat.min_eq_left hlen, hl], hm, fun i => ?_⟩
    · have hi2 : i < len := by simp at hi; omega
      have h1 := hc i (by omega)
      obtain ⟨b, off, e⟩ := plain_addr (hc 0 (by omega))
      have ea : a = ⟨b, off, none⟩ := by
        have : a.add 0 = a := by unfold Addr.add; simp
        rw [this] at e; exact e
      subst ea
      refine ⟨b, off, rfl, ?_⟩
      rw [add_plain] at h1
      rw [h1]
      simp [nth, List.getElem?_take, hi2]
    · by_cases g : i < (zs.take len).length
      · rw [nth_lt g]
        exact u8_of (hw _ (List.mem_of_mem_take (List.getElem_mem g)))
      · simp [nth, List.getElem?_eq_none (Nat.le_of_not_lt g)]

theorem open_bytes8 {base : Nat} {v : Value} {d : DataW H} {p : List MemPlace} {sp : Nat → Bool} {hd : Bool} (hv : Value.okWide Try.prog W .any base 78 v) (h : DataW.Trod enc Try.prog W 0 sp hd 78 v d p) :
    ∃ (l : List Int) (a : Option Addr) (cap : Nat), v = .slice a l.length cap ∧ Byts W a l ∧ l.length ≤ 9223372036854775807 ∧ ∀ i, 0 ≤ nth l i ∧ nth l i ≤ 255 := by
  obtain ⟨fuel, hf⟩ := h
  obtain ⟨a0, n0, c0, rfl⟩ := okWide_slice Try.underlying78 hv
  obtain ⟨l, a, cap, e, hB, hl, hm, hb⟩ := open_bytes_cs hf
  have e : Value.slice a0 n0 c0 = .slice a l.length cap := by simpa [Value.cells] using e
  exact ⟨l, a, cap, e, hB, by unfold maxLen at hm; omega, hb⟩

end

end Go.Proofs.Ytogglbhidlnijaa
