/- Arguments of layer 3 opened: a table, a list of numbers. -/
import Derived.Test.YtommhgcgaclflaaLift
import Derived.Test.YtommhgcgaclflaaZB11
import Derived.Deep.Matrix
namespace Go.Proofs.Ytommhgcgaclflaa
set_option linter.unusedVariables false
set_option linter.unusedSimpArgs false
set_option linter.unusedSectionVars false
set_option linter.unnecessarySimpa false
open Go Go.RowKit Go.ChangeShapes Go.WideShapes Go.ChangeAt Go.WideElems Go.Joins Go.Deep
set_option maxRecDepth 100000

theorem i64_of {x : Int} (h : (Lit.int .i64 x).wf = true) : I64 x := by
 simpa [Lit.wf, IntKind.min, IntKind.max, IntKind.signed, IntKind.bits, I64] using h
theorem i8_of {x : Int} (h : (Lit.int .i8 x).wf = true) : -128 ≤ x ∧ x ≤ 127 := by
 simpa [Lit.wf, IntKind.min, IntKind.max, IntKind.signed, IntKind.bits] using h
theorem u8_of {x : Int} (h : (Lit.int .u8 x).wf = true) : 0 ≤ x ∧ x ≤ 255 := by
 simpa [Lit.wf, IntKind.min, IntKind.max, IntKind.signed, IntKind.bits] using h
theorem cellsOfInt : Try.prog.cellsOf 2 = 1 := by kernel_rfl
theorem cellsOfRow : Try.prog.cellsOf 25 = 1 := by kernel_rfl
theorem cellsOfRows : Try.prog.cellsOf 22 = 1 := by kernel_rfl
theorem cellsOfTable : Try.prog.cellsOf 24 = 1 := by kernel_rfl

theorem plain_addr {w : World} {a : Addr} {v : Value} (h : w.cell? a = some v) : ∃ b off, a = ⟨b, off, none⟩ := by
 obtain ⟨b, off, s⟩ := a
 cases s with
 | none => exact ⟨b, off, rfl⟩
 | some s =>
  unfold World.cell? at h
  cases e : w.heap[b]? with
  | none => simp [e] at h
  | some o => cases o <;> simp [e] at h
theorem add_plain (b off i : Nat) : (⟨b, off, none⟩ : Addr).add i = ⟨b, off + i, none⟩ := by
 unfold Addr.add
 split
 ·rename_i h; subst h; rfl
 ·rfl
theorem add_zero' (a : Addr) : a.add 0 = a := by unfold Addr.add; simp

section
variable {H : Type} {enc : TypeId × Value → H} {W : World}

theorem open_longs_cs {fuel : Nat} {cs : List Value} {x : DataW H × List MemPlace} {sp : Nat → Bool} {hd : Bool} (h : DataW.trod enc Try.prog W 0 sp hd fuel 25 cs = some x) :
 ∃ (l : List Int) (a : Option Addr) (cap : Nat), cs = [.slice a l.length cap] ∧ Ints W a l ∧ l.length ≤ cap ∧ cap ≤ maxLen ∧ ∀ i, I64 (nth l i) := by
 rcases open_ints Try.underlying25 Try.underlying2 cellsOfInt h with ⟨rfl, _⟩ | ⟨a, len, cap, zs, rfl, _, hl, hm, hz, _, hc, hw⟩
 ·exact ⟨[], none, 0, rfl, Ints.nil _ _, Nat.le_refl _, by simp [maxLen], fun i => by simp [nth, I64]⟩
 ·have hlen : len ≤ zs.length := by rw [hz]; split <;> omega
  refine ⟨zs.take len, some a, cap, by simp [Nat.min_eq_left hlen], fun i hi => ?_, by simp [Nat.min_eq_left hlen, hl], hm, fun i => ?_⟩
  ·have hi2 : i < len := by simp at hi; omega
   have h1 := hc i (by omega)
   obtain ⟨b, off, e⟩ := plain_addr (hc 0 (by omega))
   rw [add_zero'] at e
   subst e
   refine ⟨b, off, rfl, ?_⟩
   rw [add_plain] at h1
   rw [h1]
   simp [nth, List.getElem?_take, hi2]
  ·by_cases g : i < (zs.take len).length
   ·rw [nth_lt g]
    exact i64_of (hw _ (List.mem_of_mem_take (List.getElem_mem g)))
   ·simp [nth, List.getElem?_eq_none (Nat.le_of_not_lt g), I64]
theorem open_longs {base : Nat} {v : Value} {d : DataW H} {p : List MemPlace} {sp : Nat → Bool} {hd : Bool} (hv : Value.okWide Try.prog W .any base 25 v) (h : DataW.Trod enc Try.prog W 0 sp hd 25 v d p) :
 ∃ (l : List Int) (a : Option Addr) (cap : Nat), v = .slice a l.length cap ∧ (∀ i, I64 (nth l i)) ∧ Ints W a l ∧ l.length ≤ 9223372036854775807 := by
 obtain ⟨fuel, hf⟩ := h
 obtain ⟨a0, n0, c0, rfl⟩ := okWide_slice Try.underlying25 hv
 obtain ⟨l, a, cap, e, hB, hl, hm, hb⟩ := open_longs_cs hf
 have e : Value.slice a0 n0 c0 = .slice a l.length cap := by simpa [Value.cells] using e
 exact ⟨l, a, cap, e, hb, hB, by unfold maxLen at hm; omega⟩

theorem open_rows_cs {fuel : Nat} {cs : List Value} {x : DataW H × List MemPlace} {hd : Bool} (h : DataW.trod enc Try.prog W 0 (fun _ => true) hd fuel 22 cs = some x) :
 ∃ (t : List (List Int)) (a : Option Addr) (cap : Nat), cs = [.slice a t.length cap] ∧ Tab W a t ∧ t.length ≤ cap ∧ cap ≤ maxLen ∧ (∀ i k, I64 (ent t i k)) ∧ ∀ i, (row t i).length ≤ maxLen := by
 rcases open_int_rows Try.underlying22 Try.underlying25 Try.underlying2 cellsOfRow cellsOfInt h with ⟨rfl, _⟩ | ⟨a, len, cap, A, L, C, Z, rfl, _, hl, hm, _, hr⟩
 ·exact ⟨[], none, 0, rfl, Tab.nil _ _, Nat.le_refl _, by simp [maxLen], fun i k => by simp [ent, row, nth, I64], fun i => by simp [row]⟩
 ·have hlen : ∀ r, r < len → L r ≤ (Z r).length := fun r hr' => by
   obtain ⟨_, h1, _, h3, _⟩ := hr r (by omega)
   omega
  have hrow : ∀ r, r < len → row ((List.range len).map fun r => (Z r).take (L r)) r = (Z r).take (L r) := fun r h => row_map_range _ _ _ h
  have hrl : ∀ r, r < len → ((Z r).take (L r)).length = L r := fun r h => by rw [List.length_take]; exact Nat.min_eq_left (hlen r h)
  refine ⟨(List.range len).map fun r => (Z r).take (L r), some a, cap, by simp, fun i hi => ?_, by simpa using hl, hm, fun i k => ?_, fun i => ?_⟩
  ·have hi2 : i < len := by simpa using hi
   obtain ⟨h1, h2, h3, h4, h5, h6, h7⟩ := hr i (by omega)
   obtain ⟨b, off, e⟩ := plain_addr (hr 0 (by omega)).1
   rw [add_zero'] at e
   subst e
   rw [add_plain] at h1
   refine ⟨b, off, A i, C i, rfl, ?_, fun k hk => ?_, ?_⟩
   ·rw [h1, hrow i hi2, hrl i hi2]
   ·rw [hrow i hi2, hrl i hi2] at hk
    cases hA : A i with
    | none => have := h6 hA; omega
    | some a' =>
     obtain ⟨_, hc⟩ := h7 a' hA
     obtain ⟨b', off', e'⟩ := plain_addr (hc 0 (by omega))
     rw [add_zero'] at e'
     subst e'
     refine ⟨b', off', rfl, ?_⟩
     have := hc k (by omega)
     rw [add_plain] at this
     rw [this, hrow i hi2]
     simp [nth, List.getElem?_take, hk]
   ·rw [hrow i hi2, hrl i hi2]; exact h2
  ·by_cases g : i < len
   ·unfold ent
    rw [hrow i g]
    obtain ⟨_, _, _, _, h5, _⟩ := hr i (by omega)
    by_cases g2 : k < ((Z i).take (L i)).length
    ·rw [nth_lt g2]
     exact i64_of (h5 _ (List.mem_of_mem_take (List.getElem_mem g2)))
    ·simp [nth, List.getElem?_eq_none (Nat.le_of_not_lt g2), I64]
   ·unfold ent
    rw [row_ge (by simpa using g)]
    simp [nth, I64]
  ·by_cases g : i < len
   ·rw [hrow i g, hrl i g]
    obtain ⟨_, h2, h3, _⟩ := hr i (by omega)
    omega
   ·rw [row_ge (by simpa using g)]; simp

theorem open_table {base : Nat} {v : Value} {d : DataW H} {p : List MemPlace} {hd : Bool} (hv : Value.okWide Try.prog W .any base 24 v) (h : DataW.Trod enc Try.prog W 0 (fun _ => true) hd 24 v d p) :
 ∃ (t : List (List Int)) (a : Option Addr) (cap : Nat), v = (.agg #[.slice a t.length cap]) ∧ FitT t ∧ Tab W a t ∧ t.length ≤ 9223372036854775807 ∧ ∀ i, (row t i).length ≤ 9223372036854775807 := by
 obtain ⟨cs, rfl, hsz⟩ := okWide_struct Try.underlying24 hv
 obtain ⟨c0, rfl⟩ : ∃ c0, cs = #[c0] := by
  obtain ⟨l⟩ := cs
  match l, hsz.trans cellsOfTable with
  | [c0], _ => exact ⟨c0, rfl⟩
 obtain ⟨fuel, hf⟩ := h
 obtain ⟨y0, n, hx, _, h0⟩ := trod_struct1 Try.underlying24 hf
 have h1 : DataW.trod enc Try.prog W 0 (fun _ => true) hd n 22 [c0] = some y0 := by simpa [Value.cells, cellsOfRows] using h0
 obtain ⟨t, a, cap, e, hT, hl, hm, hq, hr⟩ := open_rows_cs h1
 obtain rfl : c0 = .slice a t.length cap := by simpa using e
 exact ⟨t, a, cap, rfl, hq, hT, by unfold maxLen at hm; omega, fun i => by have := hr i; unfold maxLen at this; omega⟩

end

end Go.Proofs.Ytommhgcgaclflaa
