/- Fresh copies of slices of pairs, and a store of a pair. Over no program. -/
import Derived.Test.YtogglbhidlnijaaMemP
namespace Go.Proofs.Ytogglbhidlnijaa
set_option linter.unusedVariables false
set_option linter.unusedSimpArgs false
set_option linter.unusedSectionVars false
set_option linter.unnecessarySimpa false
open Go Go.RowKit

theorem cellsP_set1 (l : List (Int × Int)) : ∀ j y, j < l.length → cellsP (l.set j (y, pb l j)) = (cellsP l).set (j * 2) (.int .i64 y) := by
  induction l with
  | nil => intro j y hj; simp at hj
  | cons p l ih =>
    intro j y hj
    cases j with
    | zero => simp [cellsP, pb]
    | succ j =>
      have := ih j y (by simpa using hj)
      rw [show (j + 1) * 2 = j * 2 + 1 + 1 by omega]
      simpa [cellsP, pb] using this
theorem OwnP.set1 {w : World} {base : Nat} {e : TypeId} {b n cap : Nat} {l : List (Int × Int)} (h : OwnP w base e (.slice (some ⟨b, 0, none⟩) n cap) l) {j : Nat} (hj : j < l.length) (y : Int) :
    OwnP (w.setCell ⟨b, j * 2, none⟩ (.int .i64 y)) base e (.slice (some ⟨b, 0, none⟩) n cap) (l.set j (y, pb l j)) := by
  obtain ⟨h1, h2 | ⟨g, cap', cur, hv, hb, hg, hn, hm, hs, ht⟩⟩ := h
  · simp at h2
  · cases hv
    refine ⟨by rw [cellsP_len], .inr ⟨b, cap, cur.setIfInBounds (j * 2) (.int .i64 y), by simp, hb, ?_, by simpa using hn, hm, by simpa using hs, ?_⟩⟩
    · simp only [World.setCell]
      rw [Array.getElem?_modify]
      simp [hg]
    · rw [List.length_set, Array.toList_setIfInBounds, cellsP_set1 l j y hj, ← ht, List.take_set]
/-- A store of a pair. -/
theorem OwnP.set {w : World} {base : Nat} {e : TypeId} {b n cap : Nat} {l : List (Int × Int)} (h : OwnP w base e (.slice (some ⟨b, 0, none⟩) n cap) l) {j : Nat} (hj : j < l.length) (x y : Int) :
    OwnP ((w.setCell ⟨b, j * 2, none⟩ (.int .i64 x)).setCell ⟨b, j * 2 + 1, none⟩ (.int .i64 y)) base e (.slice (some ⟨b, 0, none⟩) n cap) (l.set j (x, y)) := by
  have h1 := (h.set1 hj x).set2 (j := j) (by simpa using hj) y
  have e : (l.set j (x, pb l j)).set j (pa (l.set j (x, pb l j)) j, y) = l.set j (x, y) := by
    rw [List.set_set]
    congr 1
    simp [pa, List.getD_eq_getElem?_getD, hj]
  rw [e] at h1
  exact h1

theorem OwnP.put {w : World} {base : Nat} {e : TypeId} {b n cap : Nat} {l : List (Int × Int)} (h : OwnP w base e (.slice (some ⟨b, 0, none⟩) n cap) l) {p : Addr} (hne : p.block ≠ b) (v : Value) :
    OwnP (w.setCell p v) base e (.slice (some ⟨b, 0, none⟩) n cap) l := by
  obtain ⟨h1, h2 | ⟨g, cap', cur, hv, hb, hg, r⟩⟩ := h
  · simp at h2
  · cases hv
    exact ⟨h1, .inr ⟨b, cap, cur, rfl, hb, (Below.heap_setCell w p v b (Ne.symm hne)).trans hg, r⟩⟩

/-- append of a list of pairs to a slice without room: a new row. -/
theorem appFreshP_wp {P : Program} {w : World} {o : Oper} {a : Act} {K : Act → World → Prop} {Q : Exit → Act → World → Prop} (s x : Operand) (t : TypeId)
    (ho : o.op = .call { callee := .builtin .append, args := #[s, x], argTypes := #[t, t] })
    (e : TypeId) (ht : P.underlying t = some (.slice e)) (he : ElemP P e) (k : List (Int × Int)) (ad0 : Option Addr) (hs : a.eval s = .slice ad0 0 0) (ad : Option Addr) (c : Nat) (hx : a.eval x = .slice ad k.length c)
    (hc : Prs w ad k) (hk : 0 < k.length) (hl : k.length ≤ 1099511627776)
    (h : ∀ g cap w', w.heap.size ≤ g → OwnP w' w.heap.size e (.slice (some ⟨g, 0, none⟩) k.length cap) k → Ext w w' →
      K (a.put o.dst (.slice (some ⟨g, 0, none⟩) k.length cap)) w') : o.wp P a w K Q := by
  obtain ⟨i, z, hi, hz, hzs, hsz, hby⟩ := he
  obtain ⟨b0, off0, rfl, _, hcell⟩ := hc.at hk
  refine appFresh_wp s x t ho e i z 2 16 ht hi hz hsz hby hzs ad0 hs _ k.length c (cellsP k) hx (cellsP_len k) ?_ hk (by unfold maxLen; omega) (by omega) fun cap w' own ext => h _ cap w' (Nat.le_refl _) own ext
  intro j u hj
  have hj2 : j < k.length * 2 := by rw [← cellsP_len]; exact (List.getElem?_eq_some_iff.1 hj).1
  obtain ⟨h1, h2⟩ := hcell (j / 2) (by omega)
  obtain ⟨g1, g2⟩ := cellsP_get k (j / 2) (by omega)
  have hadd : ∀ k, (⟨b0, off0, none⟩ : Addr).add k = ⟨b0, off0 + k, none⟩ := by intro k; unfold Addr.add; split <;> simp_all
  rw [hadd]
  rcases Nat.mod_two_eq_zero_or_one j with hm | hm
  · rw [show j = j / 2 * 2 by omega] at hj ⊢
    rw [g1] at hj; cases hj
    exact h1
  · rw [show j = j / 2 * 2 + 1 by omega] at hj ⊢
    rw [g2] at hj; cases hj
    rw [← Nat.add_assoc]; exact h2

/-- A new box. -/
structure NewC (w : World) (Y : Nat) (x y z : Value) : Prop where
  c0 : w.cell? ⟨Y, 0, none⟩ = some x
  c1 : w.cell? ⟨Y, 1, none⟩ = some y
  c2 : w.cell? ⟨Y, 2, none⟩ = some z
  f0 : w.frozen? ⟨Y, 0, none⟩ = false
  f1 : w.frozen? ⟨Y, 1, none⟩ = false
  f2 : w.frozen? ⟨Y, 2, none⟩ = false
  lt : Y < w.heap.size
theorem NewC.ext {w w' : World} {Y : Nat} {x y z : Value} (h : NewC w Y x y z) (k : Ext w w') : NewC w' Y x y z :=
  ⟨k.cell h.c0, k.cell h.c1, k.cell h.c2, (k.frozen h.lt).trans h.f0, (k.frozen h.lt).trans h.f1, (k.frozen h.lt).trans h.f2, Nat.lt_of_lt_of_le h.lt k.size⟩
theorem newC (w : World) (x y z : Value) (T : TypeId) : NewC (w.alloc (.cells #[x, y, z] T)) w.heap.size x y z :=
  ⟨by simp [go_sem], by simp [go_sem], by simp [go_sem], by simp [go_sem], by simp [go_sem], by simp [go_sem], by simp⟩
theorem newC_of {w w1 : World} {x y z : Value} {T : TypeId} (h : Ext (w.alloc (.cells #[x, y, z] T)) w1) : NewC w1 w.heap.size x y z := (newC w x y z T).ext h

end Go.Proofs.Ytogglbhidlnijaa
