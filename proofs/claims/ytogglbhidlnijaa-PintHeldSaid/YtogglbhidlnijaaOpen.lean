/- Arguments of layer 5 opened: a measure, a dented measure, a range. -/
import Derived.Test.YtogglbhidlnijaaLift
import Derived.Test.YtogglbhidlnijaaDent
namespace Go.Proofs.Ytogglbhidlnijaa
set_option linter.unusedVariables false
set_option linter.unusedSimpArgs false
set_option linter.unusedSectionVars false
set_option linter.unnecessarySimpa false
open Go Go.RowKit Go.ChangeShapes Go.WideShapes Go.ChangeAt Go.WideElems Go.Joins Go.Deep
set_option maxRecDepth 100000

theorem i64_of {x : Int} (h : (Lit.int .i64 x).wf = true) : I64 x := by
  simpa [Lit.wf, IntKind.min, IntKind.max, IntKind.signed, IntKind.bits, I64] using h

theorem cellsOfInt : Try.prog.cellsOf 2 = 1 := by kernel_rfl
theorem cellsOfRange : Try.prog.cellsOf 52 = 2 := by kernel_rfl
theorem cellsOfMeas : Try.prog.cellsOf 24 = 3 := by kernel_rfl
theorem cellsOfDent : Try.prog.cellsOf 50 = 3 := by kernel_rfl

/-- An address at which a cell is found is a plain one. -/
theorem plain_addr {w : World} {a : Addr} {v : Value} (h : w.cell? a = some v) : ∃ b off, a = ⟨b, off, none⟩ := by
  obtain ⟨b, off, s⟩ := a
  cases s with
  | none => exact ⟨b, off, rfl⟩
  | some s =>
    unfold World.cell? at h
    cases e : w.heap[b]? with
    | none => simp [e] at h
    | some o => cases o <;> simp [e] at h
theorem add_plain (b off i : Nat) : (⟨b, off, none⟩ : Addr).add i = ⟨b, off + i, none⟩ := by
  unfold Addr.add
  split
  · rename_i h; subst h; rfl
  · rfl

section
variable {H : Type} {enc : TypeId × Value → H} {W : World}

theorem open_longs {fuel : Nat} {cs : List Value} {x : DataW H × List MemPlace} {sp : Nat → Bool} {hd : Bool} (h : DataW.trod enc Try.prog W 0 sp hd fuel 22 cs = some x) :
    ∃ (l : List Int) (a : Option Addr) (cap : Nat), cs = [.slice a l.length cap] ∧ Ints W a l ∧ l.length ≤ cap ∧ cap ≤ maxLen ∧ ∀ i, I64 (nth l i) := by
  rcases open_ints Try.underlying22 Try.underlying2 cellsOfInt h with ⟨rfl, _⟩ | ⟨a, len, cap, zs, rfl, _, hl, hm, hz, _, hc, hw⟩
  · exact ⟨[], none, 0, rfl, Ints.nil _ _, Nat.le_refl _, by simp [maxLen], fun i => by simp [nth, I64]⟩
  · have hlen : len ≤ zs.length := by rw [hz]; split <;> omega
    refine ⟨zs.take len, some a, cap, by simp [Nat.min_eq_left hlen], fun i hi => ?_, by simp [Nat.min_eq_left hlen, hl], hm, fun i => ?_⟩
    · have hi2 : i < len := by simp at hi; omega
      have h1 := hc i (by omega)
      obtain ⟨b, off, e⟩ := plain_addr (hc 0 (by omega))
      have ea : a = ⟨b, off, none⟩ := by
        have : a.add 0 = a := by unfold Addr.add; simp
        rw [this] at e; exact e
      subst ea
      refine ⟨b, off, rfl, ?_⟩
      rw [add_plain] at h1
      rw [h1]
      simp [nth, List.getElem?_take, hi2]
    · by_cases g : i < (zs.take len).length
      · rw [nth_lt g]
        exact i64_of (hw _ (List.mem_of_mem_take (List.getElem_mem g)))
      · simp [nth, List.getElem?_eq_none (Nat.le_of_not_lt g), I64]

theorem open_measure {base : Nat} {v : Value} {d : DataW H} {p : List MemPlace} {sp : Nat → Bool} {hd : Bool} (hv : Value.okWide Try.prog W .any base 24 v) (h : DataW.Trod enc Try.prog W 0 sp hd 24 v d p) :
    ∃ (m : Meas) (a : Option Addr) (cap : Nat), v = (.agg #[.int .i64 m.L, .int .i64 m.R, .slice a m.hs.length cap]) ∧ Fit m ∧ Ints W a m.hs ∧ m.hs.length ≤ 9223372036854775807 := by
  obtain ⟨v0, v1, v2, y0, y1, y2, n, rfl, rfl, rfl, h0, h1, h2⟩ := open_agg3 Try.underlying24 (by kernel_rfl) cellsOfMeas hv h
  obtain ⟨x0, e0, _, w0⟩ := DataW.trod_int Try.underlying2 h0
  obtain ⟨x1, e1, _, w1⟩ := DataW.trod_int Try.underlying2 h1
  obtain ⟨l, a, cap, e2, hI, hl, hm, hq⟩ := open_longs h2
  cases e0; cases e1; cases e2
  exact ⟨⟨x0, x1, l⟩, a, cap, rfl, ⟨i64_of w0, i64_of w1, hq⟩, hI, by unfold maxLen at hm; show l.length ≤ _; omega⟩

end

end Go.Proofs.Ytogglbhidlnijaa
