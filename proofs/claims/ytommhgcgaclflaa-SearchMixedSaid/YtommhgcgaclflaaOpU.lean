/- A list of words of sixteen bits that came in, opened. -/
import Derived.Test.YtommhgcgaclflaaOpS
namespace Go.Proofs.Ytommhgcgaclflaa
set_option linter.unusedVariables false
set_option linter.unusedSimpArgs false
set_option linter.unusedSectionVars false
set_option linter.unnecessarySimpa false
open Go Go.RowKit Go.ChangeShapes Go.WideShapes Go.ChangeAt Go.WideElems Go.Joins Go.Deep
set_option maxRecDepth 100000

def Wrds (w : World) (a : Option Addr) (l : List Int) : Prop :=
 ∀ i, i < l.length → ∃ b off, a = some ⟨b, off, none⟩ ∧ w.cell? ⟨b, off + i, none⟩ = some (.int .u16 (nth l i))
theorem Wrds.ext {w w' : World} {a : Option Addr} {l : List Int} (h : Wrds w a l) (k : Ext w w') : Wrds w' a l :=
 fun i hi => let ⟨b, off, ha, hc⟩ := h i hi; ⟨b, off, ha, k.cell hc⟩
theorem u16_of {x : Int} (h : (Lit.int .u16 x).wf = true) : 0 ≤ x ∧ x ≤ 65535 := by
 simpa [Lit.wf, IntKind.min, IntKind.max, IntKind.signed, IntKind.bits] using h
theorem cellsOfWord : Try.prog.cellsOf 95 = 1 := by kernel_rfl
section
variable {H : Type} {enc : TypeId × Value → H} {W : World}

theorem open_words_cs {fuel : Nat} {cs : List Value} {x : DataW H × List MemPlace} {sp : Nat → Bool} {hd : Bool} (h : DataW.trod enc Try.prog W 0 sp hd fuel 49 cs = some x) :
 ∃ (l : List Int) (a : Option Addr) (cap : Nat), cs = [.slice a l.length cap] ∧ Wrds W a l ∧ l.length ≤ cap ∧ cap ≤ maxLen ∧ ∀ i, 0 ≤ nth l i ∧ nth l i ≤ 65535 := by
 rcases open_ints Try.underlying49 Try.underlying95 cellsOfWord h with ⟨rfl, _⟩ | ⟨a, len, cap, zs, rfl, _, hl, hm, hz, _, hc, hw⟩
 ·exact ⟨[], none, 0, rfl, fun i hi => absurd hi (by simp), Nat.le_refl _, by simp [maxLen], fun i => by simp [nth]⟩
 ·have hlen : len ≤ zs.length := by rw [hz]; split <;> omega
  refine ⟨zs.take len, some a, cap, by simp [Nat.min_eq_left hlen], fun i hi => ?_, by simp [Nat.min_eq_left hlen, hl], hm, fun i => ?_⟩
  ·have hi2 : i < len := by simp at hi; omega
   have h1 := hc i (by omega)
   obtain ⟨b, off, e⟩ := plain_addr (hc 0 (by omega))
   have ea : a = ⟨b, off, none⟩ := by
    have : a.add 0 = a := by unfold Addr.add; simp
    rw [this] at e; exact e
   subst ea
   refine ⟨b, off, rfl, ?_⟩
   rw [add_plain] at h1
   rw [h1]
   simp [nth, List.getElem?_take, hi2]
  ·by_cases g : i < (zs.take len).length
   ·rw [nth_lt g]
    exact u16_of (hw _ (List.mem_of_mem_take (List.getElem_mem g)))
   ·simp [nth, List.getElem?_eq_none (Nat.le_of_not_lt g)]
theorem open_words {base : Nat} {v : Value} {d : DataW H} {p : List MemPlace} {sp : Nat → Bool} {hd : Bool} (hv : Value.okWide Try.prog W .any base 49 v) (h : DataW.Trod enc Try.prog W 0 sp hd 49 v d p) :
 ∃ (l : List Int) (a : Option Addr) (cap : Nat), v = .slice a l.length cap ∧ (∀ i, 0 ≤ nth l i ∧ nth l i ≤ 65535) ∧ Wrds W a l ∧ l.length ≤ 9223372036854775807 := by
 obtain ⟨fuel, hf⟩ := h
 obtain ⟨a0, n0, c0, rfl⟩ := okWide_slice Try.underlying49 hv
 obtain ⟨l, a, cap, e, hB, hl, hm, hb⟩ := open_words_cs hf
 have e : Value.slice a0 n0 c0 = .slice a l.length cap := by simpa [Value.cells] using e
 exact ⟨l, a, cap, e, hb, hB, by unfold maxLen at hm; omega⟩
end

end Go.Proofs.Ytommhgcgaclflaa
