/- Texts of one proof, laid together: Mem, MemP, Game. -/
import Derived.WalkKit
import Derived.Below
import Derived.Deep.Draws
set_option linter.unusedVariables false
set_option linter.unusedSimpArgs false
set_option linter.unusedSectionVars false
set_option linter.unnecessarySimpa false
namespace Go.Proofs.Ytpnfhcnnodolbaa
open Go Go.RowKit
def nth (l : List Int) (i : Nat) : Int := l.getD i 0
theorem nth_lt {l : List Int} {i : Nat} (h : i < l.length) : nth l i = l[i] := by simp [nth, h]
theorem nth_ext {l k : List Int} (h : l.length = k.length) (e : ∀ i, i < l.length → nth l i = nth k i) : l = k := by
 refine List.ext_getElem h fun i h1 h2 => ?_
 have := e i h1
 rwa [nth_lt h1, nth_lt h2] at this
theorem nth_map_range (f : Nat → Int) (n i : Nat) (h : i < n) : nth ((List.range n).map f) i = f i := by
 simp [nth, h]
def Ext (w w' : World) : Prop := Below w.heap.size w w'
theorem Ext.refl (w : World) : Ext w w := Below.refl _ w
theorem Ext.size {w w' : World} (h : Ext w w') : w.heap.size ≤ w'.heap.size := Below.size h
theorem Ext.trans {a b c : World} (h : Ext a b) (k : Ext b c) : Ext a c := Below.trans h (Below.mono k (Below.size h))
theorem Ext.drew {a b : World} (h : Ext a b) : Ext a b.drew := Below.drew h
theorem Ext.drewN {a b : World} (h : Ext a b) (n : Nat) : Ext a (b.drewN n) := by have h : Below a.heap.size a b := h; exact ⟨h.os, h.tape, h.output, h.size, h.block⟩
theorem Ext.alloc {a b : World} (h : Ext a b) (o : Obj) : Ext a (b.alloc o) := Below.alloc h (Below.size h) o
theorem Ext.setCell {a b : World} (h : Ext a b) {p : Addr} (hp : a.heap.size ≤ p.block) (u : Value) : Ext a (b.setCell p u) := Below.setCell h hp u
theorem Ext.grown {a b c : World} {row : Option Nat} (h : Ext a b) (hg : b.grownBy c row) (hr : ∀ k, row = some k → a.heap.size ≤ k) : Ext a c :=
 Below.grown h hg (Below.size h) hr
theorem cell_lt {w : World} {p : Addr} {v : Value} (h : w.cell? p = some v) : p.block < w.heap.size := by
 unfold World.cell? at h
 cases e : w.heap[p.block]? with
 | none => simp [e] at h
 | some o =>
  have := Array.getElem?_eq_some_iff.1 e
  exact this.1
theorem Ext.cell {w w' : World} (h : Ext w w') {p : Addr} {v : Value} (hc : w.cell? p = some v) : w'.cell? p = some v :=
 (Below.cell h (cell_lt hc)).trans hc
theorem Ext.frozen {w w' : World} (h : Ext w w') {p : Addr} (hp : p.block < w.heap.size) : w'.frozen? p = w.frozen? p := Below.frozen h hp
theorem Ext.heap {w w' : World} (h : Ext w w') {k : Nat} {o : Obj} (hc : w.heap[k]? = some o) : w'.heap[k]? = some o :=
 (Below.block h k (Array.getElem?_eq_some_iff.1 hc).1).trans hc
theorem lt_of_heap {w : World} {k : Nat} {o : Obj} (hc : w.heap[k]? = some o) : k < w.heap.size := (Array.getElem?_eq_some_iff.1 hc).1
def Ints (w : World) (a : Option Addr) (l : List Int) : Prop :=
 ∀ i, i < l.length → ∃ b off, a = some ⟨b, off, none⟩ ∧ w.cell? ⟨b, off + i, none⟩ = some (.int .i64 (nth l i))
theorem Ints.ext {w w' : World} {a : Option Addr} {l : List Int} (h : Ints w a l) (k : Ext w w') : Ints w' a l :=
 fun i hi => let ⟨b, off, ha, hc⟩ := h i hi; ⟨b, off, ha, k.cell hc⟩
theorem Ints.nil (w : World) (a : Option Addr) : Ints w a [] := fun i hi => absurd hi (by simp)
theorem Ints.at {w : World} {a : Option Addr} {l : List Int} (h : Ints w a l) (hl : 0 < l.length) :
 ∃ b off, a = some ⟨b, off, none⟩ ∧ b < w.heap.size ∧ ∀ i, i < l.length → w.cell? ⟨b, off + i, none⟩ = some (.int .i64 (nth l i)) := by
 obtain ⟨b, off, ha, hc⟩ := h 0 hl
 refine ⟨b, off, ha, cell_lt hc, fun i hi => ?_⟩
 obtain ⟨b', off', ha', hc'⟩ := h i hi
 rw [ha] at ha'
 cases ha'
 exact hc'
theorem hid {p : Prop} (h : p) : Hid p := h
def I64 (x : Int) : Prop := -9223372036854775808 ≤ x ∧ x ≤ 9223372036854775807
theorem ret_int {k : IntKind} {a b : Int} (h : a = b) : Ending.returned (.int k a) = .returned (.int k b) := by rw [h]
theorem ret_bool {a b : Bool} (h : a = b) : Ending.returned (.bool a) = .returned (.bool b) := by rw [h]
def ElemI (P : Program) (e : TypeId) : Prop := ∃ i, P.info? e = some i ∧ i.zero = some (.int .i64 0) ∧ i.size = 1 ∧ i.bytes = 8
theorem elemI_mk {P : Program} {e : TypeId} (h : (P.info? e).map (fun i => (i.zero, i.size, i.bytes)) = some (some (.int .i64 0), 1, 8)) : ElemI P e := by
 cases hi : P.info? e with
 | none => simp [hi] at h
 | some i =>
  simp [hi] at h
  exact ⟨i, hi, h.1, h.2.1, h.2.2⟩
def OwnI (w : World) (base : Nat) (e : TypeId) (v : Value) (l : List Int) : Prop := w.ownsRow base e 1 v l.length (l.map (Value.int .i64))
theorem OwnI.nil (w : World) (base : Nat) (e : TypeId) : OwnI w base e (.slice none 0 0) [] := World.ownsRow_nil w base e 1
theorem OwnI.ext {w w' : World} {base : Nat} {e : TypeId} {v : Value} {l : List Int} (h : OwnI w base e v l) (k : Ext w w') : OwnI w' base e v l :=
 World.ownsRow.kept (row := none) h ⟨Below.os k, Below.tape k, Below.output k, Below.size k, fun i hi _ => Below.block k i hi⟩ (by cases v.ownBlock <;> simp)
theorem OwnI.slice {w : World} {base : Nat} {e : TypeId} {v : Value} {l : List Int} (h : OwnI w base e v l) : ∃ a cap, v = .slice a l.length cap ∧ Ints w a l := by
 rcases h with ⟨h1, ⟨rfl, h2⟩ | ⟨g, cap, cur, rfl, hb, hg, hn, hm, hs, ht⟩⟩
 ·obtain rfl : l = [] := List.eq_nil_of_length_eq_zero h2
  exact ⟨none, 0, rfl, Ints.nil _ _⟩
 ·refine ⟨_, cap, rfl, fun i hi => ⟨g, 0, rfl, ?_⟩⟩
  have : (cur.toList.take (l.length * 1))[i]? = some (.int .i64 (nth l i)) := by
   rw [ht]; simp [nth, hi]
  rw [List.getElem?_take] at this
  split at this
  ·unfold World.cell?
   simp only [hg, Option.isSome_none, Bool.false_eq_true, if_false, Nat.zero_add]
   simpa using this
  ·cases this
theorem OwnI.block {w : World} {base : Nat} {e : TypeId} {v : Value} {l : List Int} (h : OwnI w base e v l) : ∀ k, v.ownBlock = some k → base ≤ k ∧ k < w.heap.size := World.ownsRow.lt h
theorem app_int {P : Program} {w : World} {ops : Array Oper} {rest : List Oper} {o : Oper} {a : Act} {Q : Exit → Act → World → Prop} (hgd : o.guard = none) (s x : Operand) (t : TypeId)
 (ho : o.op = .call { callee := .builtin .append, args := #[s, x], argTypes := #[t, t] })
 (e : TypeId) (ht : P.underlying t = some (.slice e)) (he : ElemI P e) (base : Nat) (l : List Int) (y : Int) (v : Value) (hs : a.eval s = v) (ad : Addr) (hx : a.eval x = .slice (some ad) 1 1)
 (hown : OwnI w base e v l) (hc : w.cell? ad = some (.int .i64 y)) (hl : l.length ≤ 1099511627776) (hbase : base ≤ w.heap.size)
 (h : ∀ b cap w', OwnI w' base e (.slice (some ⟨b, 0, none⟩) (l ++ [y]).length cap) (l ++ [y]) → (∀ w0, Ext w0 w → w0.heap.size ≤ base → Ext w0 w') → base ≤ b →
  w.grownBy w' v.ownBlock → wpList P ops Q rest (a.put o.dst (.slice (some ⟨b, 0, none⟩) (l ++ [y]).length cap)) w') : wpList P ops Q (o :: rest) a w := by
 obtain ⟨i, hi, hz, hsz, hby⟩ := he
 refine wpList_append_own w hgd s x t ho base e i (.int .i64 0) 1 8 ht hi hz hsz hby rfl (by decide) v l.length _ hs hown ad 1 1 [.int .i64 y] hx rfl ?_ ?_ ?_ ?_ hbase ?_
 ·intro j u hj
  match j, hj with
  | 0, hj => simp at hj; subst hj; simpa [Addr.add] using hc
 ·intro u hu
  simp at hu; subst hu; rfl
 ·unfold maxLen; omega
 ·omega
 ·intro v' w' hown' hg hn
  have hv : ¬ v' = .slice none 0 0 := fun e => by have := (hn.1 e).2; simp at this
  rcases hown'.2 with ⟨e1, _⟩ | ⟨g, cap, cur, rfl, hb, r⟩
  ·exact absurd e1 hv
  ·have e : l.length + 1 = (l ++ [y]).length := by simp
   have e2 : l.map (Value.int .i64) ++ [Value.int .i64 y] = (l ++ [y]).map (Value.int .i64) := by simp
   rw [e, e2] at hown'
   rw [e]
   exact h g cap w' hown' (fun w0 k0 hw0 => Ext.grown k0 hg fun k hk => by have := (OwnI.block hown k hk).1; omega) hb hg
theorem OwnI.made (w : World) {base : Nat} (hb : base ≤ w.heap.size) (e : TypeId) : OwnI (w.alloc (.cells #[] e)) base e (.slice (some ⟨w.heap.size, 0, none⟩) 0 0) [] :=
 World.ownsRow_made w #[] 0 hb (by unfold maxLen; omega) rfl
theorem OwnI.set {w : World} {base : Nat} {e : TypeId} {b cap : Nat} {l : List Int} (h : OwnI w base e (.slice (some ⟨b, 0, none⟩) l.length cap) l) {i : Nat} (y : Int) :
 OwnI (w.setCell ⟨b, i, none⟩ (.int .i64 y)) base e (.slice (some ⟨b, 0, none⟩) (l.set i y).length cap) (l.set i y) := by
 obtain ⟨h1, h2 | ⟨g, cap', cur, hv, hb, hg, hn, hm, hs, ht⟩⟩ := h
 ·simp at h2
 ·cases hv
  refine ⟨by simp, .inr ⟨b, cap, cur.setIfInBounds i (.int .i64 y), by simp, hb, ?_, by simpa using hn, hm, by simpa using hs, ?_⟩⟩
  ·simp only [World.setCell]
   rw [Array.getElem?_modify]
   simp [hg]
  ·simp only [Nat.mul_one] at ht ⊢
   rw [List.length_set, Array.toList_setIfInBounds, List.map_set, ← ht, List.take_set]
theorem OwnI.facts {w : World} {base : Nat} {e : TypeId} {b n cap : Nat} {l : List Int} (h : OwnI w base e (.slice (some ⟨b, 0, none⟩) n cap) l) {j : Nat} (hj : j < l.length) :
 w.cell? ⟨b, j, none⟩ = some (.int .i64 (nth l j)) ∧ w.frozen? ⟨b, j, none⟩ = false ∧ n = l.length ∧ b < w.heap.size := by
 obtain ⟨a, cp, hv, hi⟩ := h.slice
 cases hv
 obtain ⟨b', off, e, hc⟩ := hi j hj
 cases e
 obtain ⟨h1, h2 | ⟨g, cap', cur, hv, hb, hg, r⟩⟩ := h
 ·simp at h2
 ·cases hv
  exact ⟨by simpa using hc, by simp [World.frozen?, hg], rfl, lt_of_heap hg⟩
theorem Ints.put {w : World} {b off : Nat} {l : List Int} (h : Ints w (some ⟨b, off, none⟩) l) {p : Addr} (hne : p.block ≠ b) (v : Value) : Ints (w.setCell p v) (some ⟨b, off, none⟩) l := by
 intro i hi
 obtain ⟨b', off', e, hc⟩ := h i hi
 cases e
 refine ⟨b, off, rfl, ?_⟩
 rw [← hc]
 exact World.cell?_of_block (Below.heap_setCell w p v b (Ne.symm hne))
theorem Ints.alloc {w : World} {a : Option Addr} {l : List Int} (h : Ints w a l) (o : Obj) : Ints (w.alloc o) a l := h.ext ((Ext.refl w).alloc o)
theorem Ints.drew {w : World} {a : Option Addr} {l : List Int} (h : Ints w a l) : Ints w.drew a l := h.ext (Ext.refl w).drew
theorem OwnI.put {w : World} {base : Nat} {e : TypeId} {b n cap : Nat} {l : List Int} (h : OwnI w base e (.slice (some ⟨b, 0, none⟩) n cap) l) {p : Addr} (hne : p.block ≠ b) (v : Value) :
 OwnI (w.setCell p v) base e (.slice (some ⟨b, 0, none⟩) n cap) l := by
 obtain ⟨h1, h2 | ⟨g, cap', cur, hv, hb, hg, r⟩⟩ := h
 ·simp at h2
 ·cases hv
  exact ⟨h1, .inr ⟨b, cap, cur, rfl, hb, (Below.heap_setCell w p v b (Ne.symm hne)).trans hg, r⟩⟩
theorem ints_row {w : World} {g : Nat} {arr : Array Value} {e : TypeId} {l : List Int} (hg : w.heap[g]? = some (.cells arr e (0, 0))) (h : ∀ i, i < l.length → arr[i]? = some (.int .i64 (nth l i))) : Ints w (some ⟨g, 0, none⟩) l := by
 intro i hi
 refine ⟨g, 0, rfl, ?_⟩
 unfold World.cell?
 simp only [hg, Option.isSome_none, Bool.false_eq_true, if_false, Nat.zero_add]
 exact h i hi
theorem Ext.setRow {a b : World} (h : Ext a b) {g : Nat} (hg : a.heap.size ≤ g) (cs : Array Value) : Ext a (b.setRow g cs) :=
 Below.trans h ⟨rfl, rfl, rfl, by simp, fun k hk => setRow_other b g k cs (by omega)⟩
theorem OwnI.mono {w : World} {base base' : Nat} {e : TypeId} {v : Value} {l : List Int} (h : OwnI w base e v l) (hb : base' ≤ base) : OwnI w base' e v l := by
 obtain ⟨h1, h2 | ⟨g, cap', cur, hv, hg, r⟩⟩ := h
 ·exact ⟨h1, .inl h2⟩
 ·exact ⟨h1, .inr ⟨g, cap', cur, hv, by omega, r⟩⟩
def pa (l : List (Int × Int)) (i : Nat) : Int := (l.getD i (0, 0)).1
def pb (l : List (Int × Int)) (i : Nat) : Int := (l.getD i (0, 0)).2
def Prs (w : World) (a : Option Addr) (l : List (Int × Int)) : Prop :=
 ∀ i, i < l.length → ∃ b off, a = some ⟨b, off, none⟩ ∧ w.cell? ⟨b, off + i * 2, none⟩ = some (.int .i64 (pa l i)) ∧ w.cell? ⟨b, off + i * 2 + 1, none⟩ = some (.int .i64 (pb l i))
theorem Prs.ext {w w' : World} {a : Option Addr} {l : List (Int × Int)} (h : Prs w a l) (k : Ext w w') : Prs w' a l :=
 fun i hi => let ⟨b, off, ha, hc, hd⟩ := h i hi; ⟨b, off, ha, k.cell hc, k.cell hd⟩
theorem Prs.nil (w : World) (a : Option Addr) : Prs w a [] := fun i hi => absurd hi (by simp)
theorem Prs.at {w : World} {a : Option Addr} {l : List (Int × Int)} (h : Prs w a l) (hl : 0 < l.length) :
 ∃ b off, a = some ⟨b, off, none⟩ ∧ b < w.heap.size ∧ ∀ i, i < l.length → w.cell? ⟨b, off + i * 2, none⟩ = some (.int .i64 (pa l i)) ∧ w.cell? ⟨b, off + i * 2 + 1, none⟩ = some (.int .i64 (pb l i)) := by
 obtain ⟨b, off, ha, hc, _⟩ := h 0 hl
 refine ⟨b, off, ha, cell_lt hc, fun i hi => ?_⟩
 obtain ⟨b', off', ha', hc'⟩ := h i hi
 rw [ha] at ha'
 cases ha'
 exact hc'
def cellsP : List (Int × Int) → List Value
 | [] => []
 | p :: l => .int .i64 p.1 :: .int .i64 p.2 :: cellsP l
theorem cellsP_get (l : List (Int × Int)) : ∀ i, i < l.length → (cellsP l)[i * 2]? = some (.int .i64 (pa l i)) ∧ (cellsP l)[i * 2 + 1]? = some (.int .i64 (pb l i)) := by
 induction l with
 | nil => intro i hi; simp at hi
 | cons p l ih =>
  intro i hi
  cases i with
  | zero => simp [cellsP, pa, pb]
  | succ i =>
   have := ih i (by simpa using hi)
   rw [show (i + 1) * 2 = i * 2 + 1 + 1 by omega]
   simpa [cellsP, pa, pb] using this
def OwnP (w : World) (base : Nat) (e : TypeId) (v : Value) (l : List (Int × Int)) : Prop := w.ownsRow base e 2 v l.length (cellsP l)
theorem OwnP.nil (w : World) (base : Nat) (e : TypeId) : OwnP w base e (.slice none 0 0) [] := World.ownsRow_nil w base e 2
theorem OwnP.ext {w w' : World} {base : Nat} {e : TypeId} {v : Value} {l : List (Int × Int)} (h : OwnP w base e v l) (k : Ext w w') : OwnP w' base e v l :=
 World.ownsRow.kept (row := none) h ⟨Below.os k, Below.tape k, Below.output k, Below.size k, fun i hi _ => Below.block k i hi⟩ (by cases v.ownBlock <;> simp)
theorem OwnP.block {w : World} {base : Nat} {e : TypeId} {v : Value} {l : List (Int × Int)} (h : OwnP w base e v l) : ∀ k, v.ownBlock = some k → base ≤ k ∧ k < w.heap.size := World.ownsRow.lt h
theorem row_cell {w : World} {g : Nat} {cur : Array Value} {e : TypeId} {n : Nat} {xs : List Value} (hg : w.heap[g]? = some (.cells cur e (0, 0))) (ht : cur.toList.take n = xs) {j : Nat} {u : Value} (hj : xs[j]? = some u) :
 w.cell? ⟨g, j, none⟩ = some u := by
 rw [← ht, List.getElem?_take] at hj
 split at hj
 ·unfold World.cell?
  simp only [hg, Option.isSome_none, Bool.false_eq_true, if_false]
  simpa using hj
 ·cases hj
theorem OwnP.slice {w : World} {base : Nat} {e : TypeId} {v : Value} {l : List (Int × Int)} (h : OwnP w base e v l) : ∃ a cap, v = .slice a l.length cap ∧ l.length ≤ cap ∧ Prs w a l := by
 rcases h with ⟨h1, ⟨rfl, h2⟩ | ⟨g, cap, cur, rfl, hb, hg, hn, hm, hs, ht⟩⟩
 ·obtain rfl : l = [] := List.eq_nil_of_length_eq_zero h2
  exact ⟨none, 0, rfl, Nat.le_refl _, Prs.nil _ _⟩
 ·refine ⟨_, cap, rfl, hn, fun i hi => ⟨g, 0, rfl, ?_, ?_⟩⟩
  ·rw [Nat.zero_add]; exact row_cell hg ht (cellsP_get l i hi).1
  ·rw [Nat.zero_add]; exact row_cell hg ht (cellsP_get l i hi).2
theorem OwnP.facts {w : World} {base : Nat} {e : TypeId} {b n cap : Nat} {l : List (Int × Int)} (h : OwnP w base e (.slice (some ⟨b, 0, none⟩) n cap) l) {j : Nat} (hj : j < l.length) :
 w.cell? ⟨b, j * 2, none⟩ = some (.int .i64 (pa l j)) ∧ w.cell? ⟨b, j * 2 + 1, none⟩ = some (.int .i64 (pb l j)) ∧ w.frozen? ⟨b, j * 2, none⟩ = false ∧ w.frozen? ⟨b, j * 2 + 1, none⟩ = false ∧ n = l.length ∧ b < w.heap.size := by
 obtain ⟨h1, h2 | ⟨g, cap', cur, hv, hb, hg, hn, hm, hs, ht⟩⟩ := h
 ·simp at h2
 ·cases hv
  exact ⟨row_cell hg ht (cellsP_get l j hj).1, row_cell hg ht (cellsP_get l j hj).2, by simp [World.frozen?, hg], by simp [World.frozen?, hg], rfl, lt_of_heap hg⟩
theorem OwnP.addr {w : World} {base : Nat} {e : TypeId} {v : Value} {l : List (Int × Int)} (h : OwnP w base e v l) (hl : 0 < l.length) : ∃ b cap, v = .slice (some ⟨b, 0, none⟩) l.length cap ∧ base ≤ b ∧ b < w.heap.size ∧ l.length ≤ cap := by
 obtain ⟨h1, ⟨_, h2⟩ | ⟨g, cap', cur, hv, hb, hg, hn, hm, hs, ht⟩⟩ := h
 ·omega
 ·exact ⟨g, cap', hv, hb, lt_of_heap hg, hn⟩
theorem appFull_wp {P : Program} {w : World} {o : Oper} {a : Act} {K : Act → World → Prop} {Q : Exit → Act → World → Prop} (s x : Operand) (t : TypeId)
 (ho : o.op = .call { callee := .builtin .append, args := #[s, x], argTypes := #[t, t] })
 (e : TypeId) (i : TypeInfo) (z : Value) (size bytes : Nat) (ht : P.underlying t = some (.slice e)) (hi : P.info? e = some i) (hz : i.zero = some z)
 (hsize : i.size = size) (hby : i.bytes = bytes) (hzs : z.cells.size = size) (ad0 : Option Addr) (n : Nat) (hs : a.eval s = .slice ad0 n n) (h0 : n = 0 ∨ ∃ b, ad0 = some b)
 (olds : List Value) (hlo : olds.length = n * size) (holds : ∀ j v, olds[j]? = some v → ∃ b, ad0 = some b ∧ w.cell? (b.add j) = some v)
 (ad : Addr) (m c : Nat) (news : List Value) (hx : a.eval x = .slice (some ad) m c) (hl : news.length = m * size) (hnews : ∀ j u, news[j]? = some u → w.cell? (ad.add j) = some u)
 (hm : 0 < m) (h63 : n + m ≤ maxLen) (hbytes : (n + m) * bytes ≤ 140737488355328)
 (h : ∀ cap w', w'.ownsRow w.heap.size e size (.slice (some ⟨w.heap.size, 0, none⟩) (n + m) cap) (n + m) (olds ++ news) → Ext w w' →
  K (a.put o.dst (.slice (some ⟨w.heap.size, 0, none⟩) (n + m) cap)) w') : o.wp P a w K Q := by
 subst hsize
 subst hby
 have hsmall : n + m ≤ 9223372036854775807 := by simp only [maxLen] at h63; omega
 have hge := grownCap_ge w (n + m) n e
 have hcm : grownCap w (n + m) n e ≤ maxLen := grownCap_le_maxLen w (n + m) n e h63
 have hr : (Builtin.append_ #[t, t] o.type #[.slice ad0 n n, .slice (some ad) m c]).run P w =
  .ok (.slice (some ⟨w.heap.size, 0, none⟩) (n + m) (grownCap w (n + m) n e)) (w.drew.alloc (.cells (olds.toArray ++ news.toArray ++ Builtin.zeroCells z.cells (grownCap w (n + m) n e - (n + m))) e)) := by
  cases ad0 with
  | none =>
   obtain rfl : n = 0 := by rcases h0 with h0 | ⟨b, hb⟩; exact h0; cases hb
   obtain rfl : olds = [] := List.eq_nil_of_length_eq_zero (by simpa using hlo)
   have := run_append_nil (P := P) w t o.type e i z ht hi hz ad m c news hl hnews hm (by omega) (by rw [Nat.zero_add] at hbytes; omega)
   simpa using this
  | some b =>
   exact run_append_grow (P := P) w t o.type e i z ht hi hz b n n olds hlo (fun j v hv => by obtain ⟨b', hb, hc⟩ := holds j v hv; cases hb; exact hc) ad m c news hl hnews (by omega) (by omega) (growslice_fits (by omega) hbytes)
 unfold Oper.wp execOp
 simp only [ho, resolve, invoke, builtin, Sem.run_bind, Sem.run_pure, Result.andThen_ok, List.map_toArray, List.map_cons, List.map_nil, hs, hx, hr]
 refine h _ _ ⟨by rw [List.length_append, hlo, hl, Nat.add_mul], .inr ⟨w.heap.size, _, _, rfl, Nat.le_refl _, heap_alloc_new w.drew _, hge, hcm, ?_, ?_⟩⟩ ((Ext.refl w).drew.alloc _)
 ·simp only [Array.size_append, List.size_toArray, size_zeroCells, hzs, hlo, hl, ← Nat.add_mul]
  congr 1
  omega
 ·simp only [Array.toList_append, List.append_assoc]
  rw [← List.append_assoc, Nat.add_mul, ← hlo, ← hl, ← List.length_append]
  exact List.take_left
theorem OwnP.mono {w : World} {base base' : Nat} {e : TypeId} {v : Value} {l : List (Int × Int)} (h : OwnP w base e v l) (hb : base' ≤ base) : OwnP w base' e v l := by
 obtain ⟨h1, h2 | ⟨g, cap', cur, hv, hg, r⟩⟩ := h
 ·exact ⟨h1, .inl h2⟩
 ·exact ⟨h1, .inr ⟨g, cap', cur, hv, by omega, r⟩⟩
end Go.Proofs.Ytpnfhcnnodolbaa
namespace Go.Proofs.Ytpnfhcnnodolbaa.Game
def sm : Nat → (Nat → Int) → Int
 | 0, _ => 0
 | n + 1, f => sm n f + f n
theorem sm_congr {n : Nat} {f g : Nat → Int} (h : ∀ i, i < n → f i = g i) : sm n f = sm n g := by
 induction n with
 | zero => rfl
 | succ k ih => simp only [sm]; rw [ih fun i hi => h i (by omega), h k (by omega)]
theorem sm_mul (n : Nat) (c : Int) (f : Nat → Int) : sm n (fun i => c * f i) = c * sm n f := by
 induction n with
 | zero => simp [sm]
 | succ k ih => simp only [sm]; rw [ih]; grind
theorem sm_le {n : Nat} {f g : Nat → Int} (h : ∀ i, i < n → f i ≤ g i) : sm n f ≤ sm n g := by
 induction n with
 | zero => simp [sm]
 | succ k ih => simp only [sm]; have := ih fun i hi => h i (by omega); have := h k (by omega); omega
theorem sm_zero {n : Nat} {f : Nat → Int} (h : ∀ i, i < n → f i = 0) : sm n f = 0 := by
 induction n with
 | zero => rfl
 | succ k ih => simp only [sm]; rw [ih fun i hi => h i (by omega), h k (by omega)]; rfl
theorem sm_nonneg {n : Nat} {f : Nat → Int} (h : ∀ i, i < n → 0 ≤ f i) : 0 ≤ sm n f := by
 have := sm_le (f := fun _ => 0) (g := f) h
 rwa [sm_zero (fun _ _ => rfl)] at this
theorem sm_one {n : Nat} {f : Nat → Int} (h : ∀ i, i < n → 0 ≤ f i) {i : Nat} (hi : i < n) : f i ≤ sm n f := by
 induction n with
 | zero => omega
 | succ k ih =>
  simp only [sm]
  have h0 := sm_nonneg (n := k) (f := f) fun i hi => h i (by omega)
  rcases Nat.lt_or_ge i k with g | g
  ·have := ih (fun i hi => h i (by omega)) g; have := h k (by omega); omega
  ·obtain rfl : i = k := by omega
   omega
theorem sm_pos {n : Nat} {f : Nat → Int} (h : ∀ i, i < n → 0 ≤ f i) {i : Nat} (hi : i < n) (hp : 0 < f i) : 0 < sm n f := by
 have := sm_one h hi; omega
structure Pl (m : Nat) (x : Nat → Int) : Prop where
 nn : ∀ i, i < m → 0 ≤ x i
 ps : 0 < sm m x
def put : List Nat → List Int → Nat → Int
 | a :: s, p :: q, r => if r = a then p else put s q r
 | _, _, _ => 0
def ls (f : Nat → Int) : List Nat → Int
 | [] => 0
 | a :: s => f a + ls f s
def Par (m : Nat) (x e : Nat → Int) : Prop := ∀ i k, i < m → k < m → x i * e k = x k * e i
theorem Par.sm {m : Nat} {x e : Nat → Int} (h : Par m x e) {i : Nat} (hi : i < m) : x i * sm m e = e i * sm m x := by
 rw [← sm_mul, ← sm_mul]
 exact sm_congr fun k hk => by rw [h i k hi hk]; exact Int.mul_comm _ _
theorem sm_neg (n : Nat) (f : Nat → Int) : sm n (fun i => - f i) = - sm n f := by
 have := sm_mul n (-1) f
 rw [sm_congr (g := fun i => - f i) (fun i _ => by omega)] at this
 omega
end Go.Proofs.Ytpnfhcnnodolbaa.Game
