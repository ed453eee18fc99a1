/- Arguments of layer 5 opened: a dented measure, a range. -/
import Derived.Test.YtogglbhidlnijaaOpen
import Derived.Deep.SlicePairs
namespace Go.Proofs.Ytogglbhidlnijaa
set_option linter.unusedVariables false
set_option linter.unusedSimpArgs false
set_option linter.unusedSectionVars false
set_option linter.unnecessarySimpa false
open Go Go.RowKit Go.ChangeShapes Go.WideShapes Go.ChangeAt Go.WideElems Go.Joins Go.Deep
set_option maxRecDepth 100000

section
variable {H : Type} {enc : TypeId × Value → H} {W : World}

theorem open_prs {fuel : Nat} {cs : List Value} {x : DataW H × List MemPlace} {sp : Nat → Bool} {hd : Bool} (h : DataW.trod enc Try.prog W 0 sp hd fuel 48 cs = some x) :
    ∃ (l : List (Int × Int)) (a : Option Addr) (cap : Nat), cs = [.slice a l.length cap] ∧ Prs W a l ∧ l.length ≤ cap ∧ cap ≤ maxLen ∧ (∀ i, I64 (pa l i)) ∧ ∀ i, I64 (pb l i) := by
  rcases open_slice_pairs Try.underlying48 Try.underlying52 cellsOfRange rfl rfl cellsOfInt cellsOfInt h with ⟨rfl, _⟩ | ⟨a, len, cap, m, n, V0, V1, D0, D1, P0, P1, rfl, _, hl, hm, hmm, _, hc⟩
  · exact ⟨[], none, 0, rfl, Prs.nil _ _, Nat.le_refl _, by simp [maxLen], fun i => by simp [pa, I64], fun i => by simp [pb, I64]⟩
  · have hlen : len ≤ m := by rw [hmm]; split <;> omega
    have each : ∀ i, i < m → ∃ q : Int × Int, V0 i = .int .i64 q.1 ∧ V1 i = .int .i64 q.2 ∧ I64 q.1 ∧ I64 q.2 := by
      intro i hi
      obtain ⟨_, _, t0, t1⟩ := hc i hi
      obtain ⟨x0, e0, _, w0⟩ := DataW.trod_int Try.underlying2 t0
      obtain ⟨x1, e1, _, w1⟩ := DataW.trod_int Try.underlying2 t1
      exact ⟨(x0, x1), by simpa using e0, by simpa using e1, i64_of w0, i64_of w1⟩
    obtain ⟨q, hq⟩ := choose_lt each
    have hg : ∀ i, ((List.range len).map q)[i]? = if i < len then some (q i) else none := by
      intro i
      by_cases g : i < len
      · simp [g]
      · simp [g]
    refine ⟨(List.range len).map q, some a, cap, by simp, fun i hi => ?_, by simpa using hl, hm, fun i => ?_, fun i => ?_⟩
    · have hi2 : i < len := by simpa using hi
      obtain ⟨h1, h2, _, _⟩ := hc i (by omega)
      obtain ⟨c1, c2, _, _⟩ := hq i (by omega)
      obtain ⟨b, off, e⟩ := plain_addr (hc 0 (by omega)).1
      have ea : a = ⟨b, off, none⟩ := by
        have : a.add 0 = a := by unfold Addr.add; simp
        simpa [this] using e
      subst ea
      refine ⟨b, off, rfl, ?_, ?_⟩
      · rw [add_plain] at h1
        rw [h1, c1]
        simp [pa, hg, hi2]
      · rw [add_plain] at h2
        rw [← Nat.add_assoc] at h2
        rw [h2, c2]
        simp [pb, hg, hi2]
    · by_cases g : i < len
      · simpa [pa, hg, g] using (hq i (by omega)).2.2.1
      · simp [pa, hg, g, I64]
    · by_cases g : i < len
      · simpa [pb, hg, g] using (hq i (by omega)).2.2.2
      · simp [pb, hg, g, I64]

theorem open_dented {base : Nat} {v : Value} {d : DataW H} {p : List MemPlace} {sp : Nat → Bool} {hd : Bool} (hv : Value.okWide Try.prog W .any base 50 v) (h : DataW.Trod enc Try.prog W 0 sp hd 50 v d p) :
    ∃ (m : Dent) (a : Option Addr) (cap : Nat), v = (.agg #[.int .i64 m.L, .int .i64 m.R, .slice a m.rs.length cap]) ∧ FitD m ∧ Prs W a m.rs ∧ m.rs.length ≤ 9223372036854775807 := by
  obtain ⟨v0, v1, v2, y0, y1, y2, n, rfl, rfl, rfl, h0, h1, h2⟩ := open_agg3 Try.underlying50 (by kernel_rfl) cellsOfDent hv h
  obtain ⟨x0, e0, _, w0⟩ := DataW.trod_int Try.underlying2 h0
  obtain ⟨x1, e1, _, w1⟩ := DataW.trod_int Try.underlying2 h1
  obtain ⟨l, a, cap, e2, hI, hl, hm, hq, hr⟩ := open_prs h2
  cases e0; cases e1; cases e2
  exact ⟨⟨x0, x1, l⟩, a, cap, rfl, ⟨i64_of w0, i64_of w1, hq, hr⟩, hI, by unfold maxLen at hm; show l.length ≤ _; omega⟩

theorem open_range {base : Nat} {v : Value} {d : DataW H} {p : List MemPlace} {sp : Nat → Bool} {hd : Bool} (hv : Value.okWide Try.prog W .any base 52 v) (h : DataW.Trod enc Try.prog W 0 sp hd 52 v d p) :
    ∃ x y : Int, v = .agg #[.int .i64 x, .int .i64 y] ∧ I64 x ∧ I64 y := by
  obtain ⟨v0, v1, y0, y1, n, rfl, rfl, rfl, h0, h1⟩ := open_agg2 Try.underlying52 (by kernel_rfl) cellsOfRange hv h
  obtain ⟨x0, e0, _, w0⟩ := DataW.trod_int Try.underlying2 h0
  obtain ⟨x1, e1, _, w1⟩ := DataW.trod_int Try.underlying2 h1
  cases e0; cases e1
  exact ⟨x0, x1, rfl, i64_of w0, i64_of w1⟩

end

end Go.Proofs.Ytogglbhidlnijaa
