/- Texts of one proof, laid together: Mem, MemP, Game. -/
import Derived.WalkKit
import Derived.Below
import Derived.Deep.Draws
namespace Go.Proofs.Ytpnfhcnnodolbaa
set_option linter.unusedVariables false
set_option linter.unusedSimpArgs false
set_option linter.unusedSectionVars false
set_option linter.unnecessarySimpa false
open Go Go.RowKit

def nth (l : List Int) (i : Nat) : Int := l.getD i 0
theorem nth_lt {l : List Int} {i : Nat} (h : i < l.length) : nth l i = l[i] := by simp [nth, h]
theorem nth_nil (i : Nat) : nth [] i = 0 := by simp [nth]
theorem nth_zero (x : Int) (l : List Int) : nth (x :: l) 0 = x := by simp [nth]
theorem nth_succ (x : Int) (l : List Int) (i : Nat) : nth (x :: l) (i + 1) = nth l i := by simp [nth]
theorem nth_ext {l k : List Int} (h : l.length = k.length) (e : ∀ i, i < l.length → nth l i = nth k i) : l = k := by
 refine List.ext_getElem h fun i h1 h2 => ?_
 have := e i h1
 rwa [nth_lt h1, nth_lt h2] at this
theorem nth_append_left {l k : List Int} {i : Nat} (h : i < l.length) : nth (l ++ k) i = nth l i := by
 simp [nth, List.getElem?_append_left h]
theorem nth_append_right {l k : List Int} {i : Nat} (h : l.length ≤ i) : nth (l ++ k) i = nth k (i - l.length) := by
 simp [nth, List.getElem?_append_right h]
theorem nth_map_range (f : Nat → Int) (n i : Nat) (h : i < n) : nth ((List.range n).map f) i = f i := by
 simp [nth, h]

def Ext (w w' : World) : Prop := Below w.heap.size w w'

theorem Ext.refl (w : World) : Ext w w := Below.refl _ w
theorem Ext.below {w w' : World} (h : Ext w w') : Below w.heap.size w w' := h
theorem Ext.size {w w' : World} (h : Ext w w') : w.heap.size ≤ w'.heap.size := Below.size h
theorem Ext.trans {a b c : World} (h : Ext a b) (k : Ext b c) : Ext a c := Below.trans h (Below.mono k (Below.size h))
theorem Ext.drew {a b : World} (h : Ext a b) : Ext a b.drew := Below.drew h
theorem Ext.drewN {a b : World} (h : Ext a b) (n : Nat) : Ext a (b.drewN n) := by have h : Below a.heap.size a b := h; exact ⟨h.os, h.tape, h.output, h.size, h.block⟩
theorem Ext.alloc {a b : World} (h : Ext a b) (o : Obj) : Ext a (b.alloc o) := Below.alloc h (Below.size h) o
theorem Ext.setCell {a b : World} (h : Ext a b) {p : Addr} (hp : a.heap.size ≤ p.block) (u : Value) : Ext a (b.setCell p u) := Below.setCell h hp u
theorem Ext.grown {a b c : World} {row : Option Nat} (h : Ext a b) (hg : b.grownBy c row) (hr : ∀ k, row = some k → a.heap.size ≤ k) : Ext a c :=
 Below.grown h hg (Below.size h) hr

theorem cell_lt {w : World} {p : Addr} {v : Value} (h : w.cell? p = some v) : p.block < w.heap.size := by
 unfold World.cell? at h
 cases e : w.heap[p.block]? with
 | none => simp [e] at h
 | some o =>
  have := Array.getElem?_eq_some_iff.1 e
  exact this.1
theorem Ext.cell {w w' : World} (h : Ext w w') {p : Addr} {v : Value} (hc : w.cell? p = some v) : w'.cell? p = some v :=
 (Below.cell h (cell_lt hc)).trans hc
theorem Ext.frozen {w w' : World} (h : Ext w w') {p : Addr} (hp : p.block < w.heap.size) : w'.frozen? p = w.frozen? p := Below.frozen h hp
theorem Ext.heap {w w' : World} (h : Ext w w') {k : Nat} {o : Obj} (hc : w.heap[k]? = some o) : w'.heap[k]? = some o :=
 (Below.block h k (Array.getElem?_eq_some_iff.1 hc).1).trans hc
theorem lt_of_heap {w : World} {k : Nat} {o : Obj} (hc : w.heap[k]? = some o) : k < w.heap.size := (Array.getElem?_eq_some_iff.1 hc).1

def Ints (w : World) (a : Option Addr) (l : List Int) : Prop :=
 ∀ i, i < l.length → ∃ b off, a = some ⟨b, off, none⟩ ∧ w.cell? ⟨b, off + i, none⟩ = some (.int .i64 (nth l i))
theorem Ints.ext {w w' : World} {a : Option Addr} {l : List Int} (h : Ints w a l) (k : Ext w w') : Ints w' a l :=
 fun i hi => let ⟨b, off, ha, hc⟩ := h i hi; ⟨b, off, ha, k.cell hc⟩
theorem Ints.nil (w : World) (a : Option Addr) : Ints w a [] := fun i hi => absurd hi (by simp)
theorem Ints.at {w : World} {a : Option Addr} {l : List Int} (h : Ints w a l) (hl : 0 < l.length) :
 ∃ b off, a = some ⟨b, off, none⟩ ∧ b < w.heap.size ∧ ∀ i, i < l.length → w.cell? ⟨b, off + i, none⟩ = some (.int .i64 (nth l i)) := by
 obtain ⟨b, off, ha, hc⟩ := h 0 hl
 refine ⟨b, off, ha, cell_lt hc, fun i hi => ?_⟩
 obtain ⟨b', off', ha', hc'⟩ := h i hi
 rw [ha] at ha'
 cases ha'
 exact hc'

theorem hid {p : Prop} (h : p) : Hid p := h

def I64 (x : Int) : Prop := -9223372036854775808 ≤ x ∧ x ≤ 9223372036854775807

theorem ret_int {k : IntKind} {a b : Int} (h : a = b) : Ending.returned (.int k a) = .returned (.int k b) := by rw [h]
theorem ret2i {k k' : IntKind} {a b c d : Int} (h : a = c) (h' : b = d) : Ending.returned (.tuple #[.int k a, .int k' b]) = .returned (.tuple #[.int k c, .int k' d]) := by rw [h, h']
theorem ret3i {k k' k'' : IntKind} {a b c d e f : Int} (h : a = d) (h' : b = e) (h'' : c = f) : Ending.returned (.tuple #[.int k a, .int k' b, .int k'' c]) = .returned (.tuple #[.int k d, .int k' e, .int k'' f]) := by rw [h, h', h'']
theorem ret_bool {a b : Bool} (h : a = b) : Ending.returned (.bool a) = .returned (.bool b) := by rw [h]


theorem box3 {w w1 : World} {x y z : Value} {T : TypeId} (h : Ext (w.alloc (.cells #[x, y, z] T)) w1) :
 w1.cell? ⟨w.heap.size, 0, none⟩ = some x ∧ w1.cell? ⟨w.heap.size, 1, none⟩ = some y ∧ w1.cell? ⟨w.heap.size, 2, none⟩ = some z :=
 ⟨h.cell (by simp [go_sem]), h.cell (by simp [go_sem]), h.cell (by simp [go_sem])⟩

def sumTo (f : Nat → Int) : Nat → Int
 | 0 => 0
 | k + 1 => sumTo f k + f k
theorem sumTo_bd (f : Nat → Int) (B : Int) (n : Nat) (h : ∀ i, i < n → 0 ≤ f i ∧ f i ≤ B) : 0 ≤ sumTo f n ∧ sumTo f n ≤ B * n := by
 induction n with
 | zero => simp [sumTo]
 | succ n ih =>
  have := ih fun i hi => h i (by omega)
  have := h n (by omega)
  rw [show B * ((n + 1 : Nat) : Int) = B * n + B by rw [Int.natCast_add, Int.mul_add]; simp]
  simp only [sumTo]; omega
theorem sumTo_congr {f g : Nat → Int} {n : Nat} (h : ∀ i, i < n → f i = g i) : sumTo f n = sumTo g n := by
 induction n with
 | zero => rfl
 | succ n ih => simp only [sumTo]; rw [ih fun i hi => h i (by omega), h n (by omega)]


def ElemI (P : Program) (e : TypeId) : Prop := ∃ i, P.info? e = some i ∧ i.zero = some (.int .i64 0) ∧ i.size = 1 ∧ i.bytes = 8
theorem elemI_mk {P : Program} {e : TypeId} (h : (P.info? e).map (fun i => (i.zero, i.size, i.bytes)) = some (some (.int .i64 0), 1, 8)) : ElemI P e := by
 cases hi : P.info? e with
 | none => simp [hi] at h
 | some i =>
  simp [hi] at h
  exact ⟨i, hi, h.1, h.2.1, h.2.2⟩

def OwnI (w : World) (base : Nat) (e : TypeId) (v : Value) (l : List Int) : Prop := w.ownsRow base e 1 v l.length (l.map (Value.int .i64))
theorem OwnI.nil (w : World) (base : Nat) (e : TypeId) : OwnI w base e (.slice none 0 0) [] := World.ownsRow_nil w base e 1
theorem OwnI.ext {w w' : World} {base : Nat} {e : TypeId} {v : Value} {l : List Int} (h : OwnI w base e v l) (k : Ext w w') : OwnI w' base e v l :=
 World.ownsRow.kept (row := none) h ⟨Below.os k, Below.tape k, Below.output k, Below.size k, fun i hi _ => Below.block k i hi⟩ (by cases v.ownBlock <;> simp)
theorem OwnI.slice {w : World} {base : Nat} {e : TypeId} {v : Value} {l : List Int} (h : OwnI w base e v l) : ∃ a cap, v = .slice a l.length cap ∧ Ints w a l := by
 rcases h with ⟨h1, ⟨rfl, h2⟩ | ⟨g, cap, cur, rfl, hb, hg, hn, hm, hs, ht⟩⟩
 ·obtain rfl : l = [] := List.eq_nil_of_length_eq_zero h2
  exact ⟨none, 0, rfl, Ints.nil _ _⟩
 ·refine ⟨_, cap, rfl, fun i hi => ⟨g, 0, rfl, ?_⟩⟩
  have : (cur.toList.take (l.length * 1))[i]? = some (.int .i64 (nth l i)) := by
   rw [ht]; simp [nth, hi]
  rw [List.getElem?_take] at this
  split at this
  ·unfold World.cell?
   simp only [hg, Option.isSome_none, Bool.false_eq_true, if_false, Nat.zero_add]
   simpa using this
  ·cases this
theorem OwnI.block {w : World} {base : Nat} {e : TypeId} {v : Value} {l : List Int} (h : OwnI w base e v l) : ∀ k, v.ownBlock = some k → base ≤ k ∧ k < w.heap.size := World.ownsRow.lt h

theorem app_int {P : Program} {w : World} {ops : Array Oper} {rest : List Oper} {o : Oper} {a : Act} {Q : Exit → Act → World → Prop} (hgd : o.guard = none) (s x : Operand) (t : TypeId)
 (ho : o.op = .call { callee := .builtin .append, args := #[s, x], argTypes := #[t, t] })
 (e : TypeId) (ht : P.underlying t = some (.slice e)) (he : ElemI P e) (base : Nat) (l : List Int) (y : Int) (v : Value) (hs : a.eval s = v) (ad : Addr) (hx : a.eval x = .slice (some ad) 1 1)
 (hown : OwnI w base e v l) (hc : w.cell? ad = some (.int .i64 y)) (hl : l.length ≤ 1099511627776) (hbase : base ≤ w.heap.size)
 (h : ∀ b cap w', OwnI w' base e (.slice (some ⟨b, 0, none⟩) (l ++ [y]).length cap) (l ++ [y]) → (∀ w0, Ext w0 w → w0.heap.size ≤ base → Ext w0 w') → base ≤ b →
  w.grownBy w' v.ownBlock → wpList P ops Q rest (a.put o.dst (.slice (some ⟨b, 0, none⟩) (l ++ [y]).length cap)) w') : wpList P ops Q (o :: rest) a w := by
 obtain ⟨i, hi, hz, hsz, hby⟩ := he
 refine wpList_append_own w hgd s x t ho base e i (.int .i64 0) 1 8 ht hi hz hsz hby rfl (by decide) v l.length _ hs hown ad 1 1 [.int .i64 y] hx rfl ?_ ?_ ?_ ?_ hbase ?_
 ·intro j u hj
  match j, hj with
  | 0, hj => simp at hj; subst hj; simpa [Addr.add] using hc
 ·intro u hu
  simp at hu; subst hu; rfl
 ·unfold maxLen; omega
 ·omega
 ·intro v' w' hown' hg hn
  have hv : ¬ v' = .slice none 0 0 := fun e => by have := (hn.1 e).2; simp at this
  rcases hown'.2 with ⟨e1, _⟩ | ⟨g, cap, cur, rfl, hb, r⟩
  ·exact absurd e1 hv
  ·have e : l.length + 1 = (l ++ [y]).length := by simp
   have e2 : l.map (Value.int .i64) ++ [Value.int .i64 y] = (l ++ [y]).map (Value.int .i64) := by simp
   rw [e, e2] at hown'
   rw [e]
   exact h g cap w' hown' (fun w0 k0 hw0 => Ext.grown k0 hg fun k hk => by have := (OwnI.block hown k hk).1; omega) hb hg


theorem OwnI.made (w : World) {base : Nat} (hb : base ≤ w.heap.size) (e : TypeId) : OwnI (w.alloc (.cells #[] e)) base e (.slice (some ⟨w.heap.size, 0, none⟩) 0 0) [] :=
 World.ownsRow_made w #[] 0 hb (by unfold maxLen; omega) rfl

theorem appI_wp {P : Program} {w : World} {o : Oper} {a : Act} {K : Act → World → Prop} {Q : Exit → Act → World → Prop} (s x : Operand) (t : TypeId)
 (ho : o.op = .call { callee := .builtin .append, args := #[s, x], argTypes := #[t, t] })
 (e : TypeId) (ht : P.underlying t = some (.slice e)) (he : ElemI P e) (base : Nat) (l k : List Int) (v : Value) (hs : a.eval s = v) (ad : Option Addr) (c : Nat) (hx : a.eval x = .slice ad k.length c)
 (hown : OwnI w base e v l) (hc : Ints w ad k) (hk : 0 < k.length) (hl : l.length + k.length ≤ 1099511627776) (hbase : base ≤ w.heap.size)
 (h : ∀ b cap w', OwnI w' base e (.slice (some ⟨b, 0, none⟩) (l ++ k).length cap) (l ++ k) → (∀ w0, Ext w0 w → w0.heap.size ≤ base → Ext w0 w') → base ≤ b →
  K (a.put o.dst (.slice (some ⟨b, 0, none⟩) (l ++ k).length cap)) w') : o.wp P a w K Q := by
 obtain ⟨i, hi, hz, hsz, hby⟩ := he
 obtain ⟨b0, off0, rfl, _, hcell⟩ := hc.at hk
 refine wp_append_own w s x t ho base e i (.int .i64 0) 1 8 ht hi hz hsz hby rfl (by decide) v l.length _ hs hown _ k.length c (k.map (Value.int .i64)) hx (by simp) ?_ ?_ ?_ ?_ hbase ?_
 ·intro j u hj
  simp only [List.getElem?_map, Option.map_eq_some_iff] at hj
  obtain ⟨z, hz, rfl⟩ := hj
  obtain ⟨hj, rfl⟩ := List.getElem?_eq_some_iff.1 hz
  have := hcell j hj
  rw [nth_lt hj] at this
  rw [← this]
  unfold Addr.add
  split
  ·rename_i h0; subst h0; rfl
  ·rfl
 ·intro u hu
  simp at hu
  obtain ⟨z, _, rfl⟩ := hu
  rfl
 ·unfold maxLen; omega
 ·omega
 ·intro v' w' hown' hg hn
  have hv : ¬ v' = .slice none 0 0 := fun e => by have := (hn.1 e).2; omega
  rcases hown'.2 with ⟨e1, _⟩ | ⟨g, cap, cur, rfl, hb, r⟩
  ·exact absurd e1 hv
  ·have e : l.length + k.length = (l ++ k).length := by simp
   have e2 : l.map (Value.int .i64) ++ k.map (Value.int .i64) = (l ++ k).map (Value.int .i64) := by simp
   rw [e, e2] at hown'
   rw [e]
   exact h g cap w' hown' (fun w0 k0 hw0 => Ext.grown k0 hg fun k hk => by have := (OwnI.block hown k hk).1; omega) hb

theorem OwnI.set {w : World} {base : Nat} {e : TypeId} {b cap : Nat} {l : List Int} (h : OwnI w base e (.slice (some ⟨b, 0, none⟩) l.length cap) l) {i : Nat} (y : Int) :
 OwnI (w.setCell ⟨b, i, none⟩ (.int .i64 y)) base e (.slice (some ⟨b, 0, none⟩) (l.set i y).length cap) (l.set i y) := by
 obtain ⟨h1, h2 | ⟨g, cap', cur, hv, hb, hg, hn, hm, hs, ht⟩⟩ := h
 ·simp at h2
 ·cases hv
  refine ⟨by simp, .inr ⟨b, cap, cur.setIfInBounds i (.int .i64 y), by simp, hb, ?_, by simpa using hn, hm, by simpa using hs, ?_⟩⟩
  ·simp only [World.setCell]
   rw [Array.getElem?_modify]
   simp [hg]
  ·simp only [Nat.mul_one] at ht ⊢
   rw [List.length_set, Array.toList_setIfInBounds, List.map_set, ← ht, List.take_set]


theorem appFresh_wp {P : Program} {w : World} {o : Oper} {a : Act} {K : Act → World → Prop} {Q : Exit → Act → World → Prop} (s x : Operand) (t : TypeId)
 (ho : o.op = .call { callee := .builtin .append, args := #[s, x], argTypes := #[t, t] })
 (e : TypeId) (i : TypeInfo) (z : Value) (size bytes : Nat) (ht : P.underlying t = some (.slice e)) (hi : P.info? e = some i) (hz : i.zero = some z)
 (hsize : i.size = size) (hby : i.bytes = bytes) (hzs : z.cells.size = size) (ad0 : Option Addr) (hs : a.eval s = .slice ad0 0 0)
 (ad : Addr) (m c : Nat) (news : List Value) (hx : a.eval x = .slice (some ad) m c) (hl : news.length = m * size) (hnews : ∀ j u, news[j]? = some u → w.cell? (ad.add j) = some u)
 (hm : 0 < m) (h63 : m ≤ maxLen) (hbytes : m * bytes ≤ 140737488355328)
 (h : ∀ cap w', w'.ownsRow w.heap.size e size (.slice (some ⟨w.heap.size, 0, none⟩) m cap) m news → Ext w w' →
  K (a.put o.dst (.slice (some ⟨w.heap.size, 0, none⟩) m cap)) w') : o.wp P a w K Q := by
 subst hsize
 subst hby
 have hsmall : m ≤ 9223372036854775807 := by simp only [maxLen] at h63; omega
 have hge := grownCap_ge w m 0 e
 have hcm : grownCap w m 0 e ≤ maxLen := grownCap_le_maxLen w m 0 e h63
 have hr : (Builtin.append_ #[t, t] o.type #[.slice ad0 0 0, .slice (some ad) m c]).run P w =
  .ok (.slice (some ⟨w.heap.size, 0, none⟩) m (grownCap w m 0 e)) (w.drew.alloc (.cells (news.toArray ++ Builtin.zeroCells z.cells (grownCap w m 0 e - m)) e)) := by
  cases ad0 with
  | none => exact run_append_nil (P := P) w t o.type e i z ht hi hz ad m c news hl hnews hm (by omega) (by omega)
  | some b =>
   have := run_append_grow (P := P) w t o.type e i z ht hi hz b 0 0 [] (by simp) (by simp) ad m c news hl hnews (by omega) (by omega) (growslice_fits (by omega) (by simpa using hbytes))
   simpa using this
 unfold Oper.wp execOp
 simp only [ho, resolve, invoke, builtin, Sem.run_bind, Sem.run_pure, Result.andThen_ok, List.map_toArray, List.map_cons, List.map_nil, hs, hx, hr]
 refine h _ _ ⟨hl, .inr ⟨w.heap.size, _, _, rfl, Nat.le_refl _, heap_alloc_new w.drew _, hge, hcm, ?_, ?_⟩⟩ ((Ext.refl w).drew.alloc _)
 ·simp only [Array.size_append, List.size_toArray, size_zeroCells, hzs, hl, ← Nat.add_mul]
  congr 1
  omega
 ·simp only [Array.toList_append]
  rw [← hl]
  exact List.take_left

theorem appFreshI_wp {P : Program} {w : World} {o : Oper} {a : Act} {K : Act → World → Prop} {Q : Exit → Act → World → Prop} (s x : Operand) (t : TypeId)
 (ho : o.op = .call { callee := .builtin .append, args := #[s, x], argTypes := #[t, t] })
 (e : TypeId) (ht : P.underlying t = some (.slice e)) (he : ElemI P e) (k : List Int) (ad0 : Option Addr) (hs : a.eval s = .slice ad0 0 0) (ad : Option Addr) (c : Nat) (hx : a.eval x = .slice ad k.length c)
 (hc : Ints w ad k) (hk : 0 < k.length) (hl : k.length ≤ 1099511627776)
 (h : ∀ cap w', OwnI w' w.heap.size e (.slice (some ⟨w.heap.size, 0, none⟩) k.length cap) k → Ext w w' →
  K (a.put o.dst (.slice (some ⟨w.heap.size, 0, none⟩) k.length cap)) w') : o.wp P a w K Q := by
 obtain ⟨i, hi, hz, hsz, hby⟩ := he
 obtain ⟨b0, off0, rfl, _, hcell⟩ := hc.at hk
 refine appFresh_wp s x t ho e i (.int .i64 0) 1 8 ht hi hz hsz hby rfl ad0 hs _ k.length c (k.map (Value.int .i64)) hx (by simp) ?_ hk (by unfold maxLen; omega) (by omega) h
 intro j u hj
 simp only [List.getElem?_map, Option.map_eq_some_iff] at hj
 obtain ⟨z, hz, rfl⟩ := hj
 obtain ⟨hj, rfl⟩ := List.getElem?_eq_some_iff.1 hz
 have := hcell j hj
 rw [nth_lt hj] at this
 rw [← this]
 unfold Addr.add
 split
 ·rename_i h0; subst h0; rfl
 ·rfl


theorem Ext.rules {w w' : World} (h : Ext w w') : (∀ b o, b < w.heap.size → w'.cell? ⟨b, o, none⟩ = w.cell? ⟨b, o, none⟩) ∧ (∀ b o, b < w.heap.size → w'.frozen? ⟨b, o, none⟩ = w.frozen? ⟨b, o, none⟩) ∧ w.heap.size ≤ w'.heap.size :=
 ⟨fun _ _ hb => Below.cell h hb, fun _ _ hb => Below.frozen h hb, Below.size h⟩


theorem OwnI.facts {w : World} {base : Nat} {e : TypeId} {b n cap : Nat} {l : List Int} (h : OwnI w base e (.slice (some ⟨b, 0, none⟩) n cap) l) {j : Nat} (hj : j < l.length) :
 w.cell? ⟨b, j, none⟩ = some (.int .i64 (nth l j)) ∧ w.frozen? ⟨b, j, none⟩ = false ∧ n = l.length ∧ b < w.heap.size := by
 obtain ⟨a, cp, hv, hi⟩ := h.slice
 cases hv
 obtain ⟨b', off, e, hc⟩ := hi j hj
 cases e
 obtain ⟨h1, h2 | ⟨g, cap', cur, hv, hb, hg, r⟩⟩ := h
 ·simp at h2
 ·cases hv
  exact ⟨by simpa using hc, by simp [World.frozen?, hg], rfl, lt_of_heap hg⟩


theorem Ints.put {w : World} {b off : Nat} {l : List Int} (h : Ints w (some ⟨b, off, none⟩) l) {p : Addr} (hne : p.block ≠ b) (v : Value) : Ints (w.setCell p v) (some ⟨b, off, none⟩) l := by
 intro i hi
 obtain ⟨b', off', e, hc⟩ := h i hi
 cases e
 refine ⟨b, off, rfl, ?_⟩
 rw [← hc]
 exact World.cell?_of_block (Below.heap_setCell w p v b (Ne.symm hne))

theorem Ints.alloc {w : World} {a : Option Addr} {l : List Int} (h : Ints w a l) (o : Obj) : Ints (w.alloc o) a l := h.ext ((Ext.refl w).alloc o)
theorem Ints.drew {w : World} {a : Option Addr} {l : List Int} (h : Ints w a l) : Ints w.drew a l := h.ext (Ext.refl w).drew

theorem OwnI.put {w : World} {base : Nat} {e : TypeId} {b n cap : Nat} {l : List Int} (h : OwnI w base e (.slice (some ⟨b, 0, none⟩) n cap) l) {p : Addr} (hne : p.block ≠ b) (v : Value) :
 OwnI (w.setCell p v) base e (.slice (some ⟨b, 0, none⟩) n cap) l := by
 obtain ⟨h1, h2 | ⟨g, cap', cur, hv, hb, hg, r⟩⟩ := h
 ·simp at h2
 ·cases hv
  exact ⟨h1, .inr ⟨b, cap, cur, rfl, hb, (Below.heap_setCell w p v b (Ne.symm hne)).trans hg, r⟩⟩


theorem ints_row {w : World} {g : Nat} {arr : Array Value} {e : TypeId} {l : List Int} (hg : w.heap[g]? = some (.cells arr e (0, 0))) (h : ∀ i, i < l.length → arr[i]? = some (.int .i64 (nth l i))) : Ints w (some ⟨g, 0, none⟩) l := by
 intro i hi
 refine ⟨g, 0, rfl, ?_⟩
 unfold World.cell?
 simp only [hg, Option.isSome_none, Bool.false_eq_true, if_false, Nat.zero_add]
 exact h i hi
theorem Ext.setRow {a b : World} (h : Ext a b) {g : Nat} (hg : a.heap.size ≤ g) (cs : Array Value) : Ext a (b.setRow g cs) :=
 Below.trans h ⟨rfl, rfl, rfl, by simp, fun k hk => setRow_other b g k cs (by omega)⟩


theorem OwnI.mono {w : World} {base base' : Nat} {e : TypeId} {v : Value} {l : List Int} (h : OwnI w base e v l) (hb : base' ≤ base) : OwnI w base' e v l := by
 obtain ⟨h1, h2 | ⟨g, cap', cur, hv, hg, r⟩⟩ := h
 ·exact ⟨h1, .inl h2⟩
 ·exact ⟨h1, .inr ⟨g, cap', cur, hv, by omega, r⟩⟩

end Go.Proofs.Ytpnfhcnnodolbaa
namespace Go.Proofs.Ytpnfhcnnodolbaa
set_option linter.unusedVariables false
set_option linter.unusedSimpArgs false
set_option linter.unusedSectionVars false
set_option linter.unnecessarySimpa false
open Go Go.RowKit

def pa (l : List (Int × Int)) (i : Nat) : Int := (l.getD i (0, 0)).1
def pb (l : List (Int × Int)) (i : Nat) : Int := (l.getD i (0, 0)).2
theorem pa_lt {l : List (Int × Int)} {i : Nat} (h : i < l.length) : pa l i = l[i].1 := by simp [pa, h]
theorem pb_lt {l : List (Int × Int)} {i : Nat} (h : i < l.length) : pb l i = l[i].2 := by simp [pb, h]
theorem pab_lt {l : List (Int × Int)} {i : Nat} (h : i < l.length) : l[i] = (pa l i, pb l i) := by rw [pa_lt h, pb_lt h]

def Prs (w : World) (a : Option Addr) (l : List (Int × Int)) : Prop :=
 ∀ i, i < l.length → ∃ b off, a = some ⟨b, off, none⟩ ∧ w.cell? ⟨b, off + i * 2, none⟩ = some (.int .i64 (pa l i)) ∧ w.cell? ⟨b, off + i * 2 + 1, none⟩ = some (.int .i64 (pb l i))
theorem Prs.ext {w w' : World} {a : Option Addr} {l : List (Int × Int)} (h : Prs w a l) (k : Ext w w') : Prs w' a l :=
 fun i hi => let ⟨b, off, ha, hc, hd⟩ := h i hi; ⟨b, off, ha, k.cell hc, k.cell hd⟩
theorem Prs.nil (w : World) (a : Option Addr) : Prs w a [] := fun i hi => absurd hi (by simp)
theorem Prs.at {w : World} {a : Option Addr} {l : List (Int × Int)} (h : Prs w a l) (hl : 0 < l.length) :
 ∃ b off, a = some ⟨b, off, none⟩ ∧ b < w.heap.size ∧ ∀ i, i < l.length → w.cell? ⟨b, off + i * 2, none⟩ = some (.int .i64 (pa l i)) ∧ w.cell? ⟨b, off + i * 2 + 1, none⟩ = some (.int .i64 (pb l i)) := by
 obtain ⟨b, off, ha, hc, _⟩ := h 0 hl
 refine ⟨b, off, ha, cell_lt hc, fun i hi => ?_⟩
 obtain ⟨b', off', ha', hc'⟩ := h i hi
 rw [ha] at ha'
 cases ha'
 exact hc'

def cellsP : List (Int × Int) → List Value
 | [] => []
 | p :: l => .int .i64 p.1 :: .int .i64 p.2 :: cellsP l
theorem cellsP_len (l : List (Int × Int)) : (cellsP l).length = l.length * 2 := by induction l <;> simp [cellsP, *]; omega
theorem cellsP_append (l k : List (Int × Int)) : cellsP (l ++ k) = cellsP l ++ cellsP k := by induction l <;> simp [cellsP, *]
theorem cellsP_get (l : List (Int × Int)) : ∀ i, i < l.length → (cellsP l)[i * 2]? = some (.int .i64 (pa l i)) ∧ (cellsP l)[i * 2 + 1]? = some (.int .i64 (pb l i)) := by
 induction l with
 | nil => intro i hi; simp at hi
 | cons p l ih =>
  intro i hi
  cases i with
  | zero => simp [cellsP, pa, pb]
  | succ i =>
   have := ih i (by simpa using hi)
   rw [show (i + 1) * 2 = i * 2 + 1 + 1 by omega]
   simpa [cellsP, pa, pb] using this

def OwnP (w : World) (base : Nat) (e : TypeId) (v : Value) (l : List (Int × Int)) : Prop := w.ownsRow base e 2 v l.length (cellsP l)
theorem OwnP.nil (w : World) (base : Nat) (e : TypeId) : OwnP w base e (.slice none 0 0) [] := World.ownsRow_nil w base e 2
theorem OwnP.ext {w w' : World} {base : Nat} {e : TypeId} {v : Value} {l : List (Int × Int)} (h : OwnP w base e v l) (k : Ext w w') : OwnP w' base e v l :=
 World.ownsRow.kept (row := none) h ⟨Below.os k, Below.tape k, Below.output k, Below.size k, fun i hi _ => Below.block k i hi⟩ (by cases v.ownBlock <;> simp)
theorem OwnP.block {w : World} {base : Nat} {e : TypeId} {v : Value} {l : List (Int × Int)} (h : OwnP w base e v l) : ∀ k, v.ownBlock = some k → base ≤ k ∧ k < w.heap.size := World.ownsRow.lt h
theorem row_cell {w : World} {g : Nat} {cur : Array Value} {e : TypeId} {n : Nat} {xs : List Value} (hg : w.heap[g]? = some (.cells cur e (0, 0))) (ht : cur.toList.take n = xs) {j : Nat} {u : Value} (hj : xs[j]? = some u) :
 w.cell? ⟨g, j, none⟩ = some u := by
 rw [← ht, List.getElem?_take] at hj
 split at hj
 ·unfold World.cell?
  simp only [hg, Option.isSome_none, Bool.false_eq_true, if_false]
  simpa using hj
 ·cases hj
theorem OwnP.slice {w : World} {base : Nat} {e : TypeId} {v : Value} {l : List (Int × Int)} (h : OwnP w base e v l) : ∃ a cap, v = .slice a l.length cap ∧ l.length ≤ cap ∧ Prs w a l := by
 rcases h with ⟨h1, ⟨rfl, h2⟩ | ⟨g, cap, cur, rfl, hb, hg, hn, hm, hs, ht⟩⟩
 ·obtain rfl : l = [] := List.eq_nil_of_length_eq_zero h2
  exact ⟨none, 0, rfl, Nat.le_refl _, Prs.nil _ _⟩
 ·refine ⟨_, cap, rfl, hn, fun i hi => ⟨g, 0, rfl, ?_, ?_⟩⟩
  ·rw [Nat.zero_add]; exact row_cell hg ht (cellsP_get l i hi).1
  ·rw [Nat.zero_add]; exact row_cell hg ht (cellsP_get l i hi).2
theorem OwnP.facts {w : World} {base : Nat} {e : TypeId} {b n cap : Nat} {l : List (Int × Int)} (h : OwnP w base e (.slice (some ⟨b, 0, none⟩) n cap) l) {j : Nat} (hj : j < l.length) :
 w.cell? ⟨b, j * 2, none⟩ = some (.int .i64 (pa l j)) ∧ w.cell? ⟨b, j * 2 + 1, none⟩ = some (.int .i64 (pb l j)) ∧ w.frozen? ⟨b, j * 2, none⟩ = false ∧ w.frozen? ⟨b, j * 2 + 1, none⟩ = false ∧ n = l.length ∧ b < w.heap.size := by
 obtain ⟨h1, h2 | ⟨g, cap', cur, hv, hb, hg, hn, hm, hs, ht⟩⟩ := h
 ·simp at h2
 ·cases hv
  exact ⟨row_cell hg ht (cellsP_get l j hj).1, row_cell hg ht (cellsP_get l j hj).2, by simp [World.frozen?, hg], by simp [World.frozen?, hg], rfl, lt_of_heap hg⟩

theorem OwnP.addr {w : World} {base : Nat} {e : TypeId} {v : Value} {l : List (Int × Int)} (h : OwnP w base e v l) (hl : 0 < l.length) : ∃ b cap, v = .slice (some ⟨b, 0, none⟩) l.length cap ∧ base ≤ b ∧ b < w.heap.size ∧ l.length ≤ cap := by
 obtain ⟨h1, ⟨_, h2⟩ | ⟨g, cap', cur, hv, hb, hg, hn, hm, hs, ht⟩⟩ := h
 ·omega
 ·exact ⟨g, cap', hv, hb, lt_of_heap hg, hn⟩

def ElemP (P : Program) (e : TypeId) : Prop := ∃ i z, P.info? e = some i ∧ i.zero = some z ∧ z.cells.size = 2 ∧ i.size = 2 ∧ i.bytes = 16
theorem elemP_mk {P : Program} {e : TypeId} (h : (P.info? e).map (fun i => (i.zero, i.size, i.bytes)) = some (some (.agg #[.int .i64 0, .int .i64 0]), 2, 16)) : ElemP P e := by
 cases hi : P.info? e with
 | none => simp [hi] at h
 | some i =>
  simp [hi] at h
  exact ⟨i, _, hi, h.1, rfl, h.2.1, h.2.2⟩

theorem app_pair {P : Program} {w : World} {ops : Array Oper} {rest : List Oper} {o : Oper} {a : Act} {Q : Exit → Act → World → Prop} (hgd : o.guard = none) (s x : Operand) (t : TypeId)
 (ho : o.op = .call { callee := .builtin .append, args := #[s, x], argTypes := #[t, t] })
 (e : TypeId) (ht : P.underlying t = some (.slice e)) (he : ElemP P e) (base : Nat) (l : List (Int × Int)) (y : Int × Int) (v : Value) (hs : a.eval s = v) (b0 : Nat) (hx : a.eval x = .slice (some ⟨b0, 0, none⟩) 1 1)
 (hown : OwnP w base e v l) (hc : w.cell? ⟨b0, 0, none⟩ = some (.int .i64 y.1)) (hd : w.cell? ⟨b0, 1, none⟩ = some (.int .i64 y.2)) (hl : l.length ≤ 1099511627776) (hbase : base ≤ w.heap.size)
 (h : ∀ b cap w', OwnP w' base e (.slice (some ⟨b, 0, none⟩) (l ++ [y]).length cap) (l ++ [y]) → (∀ w0, Ext w0 w → w0.heap.size ≤ base → Ext w0 w') → base ≤ b →
  wpList P ops Q rest (a.put o.dst (.slice (some ⟨b, 0, none⟩) (l ++ [y]).length cap)) w') : wpList P ops Q (o :: rest) a w := by
 obtain ⟨i, z, hi, hz, hzs, hsz, hby⟩ := he
 refine wpList_append_own w hgd s x t ho base e i z 2 16 ht hi hz hsz hby hzs (by decide) v l.length _ hs hown _ 1 1 [.int .i64 y.1, .int .i64 y.2] hx rfl ?_ ?_ ?_ ?_ hbase ?_
 ·intro j u hj
  match j, hj with
  | 0, hj => simp at hj; subst hj; simpa [Addr.add] using hc
  | 1, hj => simp at hj; subst hj; simpa [Addr.add] using hd
 ·intro u hu
  simp at hu; rcases hu with rfl | rfl <;> rfl
 ·unfold maxLen; omega
 ·omega
 ·intro v' w' hown' hg hn
  have hv : ¬ v' = .slice none 0 0 := fun e => by have := (hn.1 e).2; simp at this
  rcases hown'.2 with ⟨e1, _⟩ | ⟨g, cap, cur, rfl, hb, r⟩
  ·exact absurd e1 hv
  ·have e : l.length + 1 = (l ++ [y]).length := by simp
   have e2 : cellsP l ++ [Value.int .i64 y.1, .int .i64 y.2] = cellsP (l ++ [y]) := by rw [cellsP_append]; rfl
   rw [e, e2] at hown'
   rw [e]
   exact h g cap w' hown' (fun w0 k0 hw0 => Ext.grown k0 hg fun k hk => by have := (OwnP.block hown k hk).1; omega) hb

theorem appFull_wp {P : Program} {w : World} {o : Oper} {a : Act} {K : Act → World → Prop} {Q : Exit → Act → World → Prop} (s x : Operand) (t : TypeId)
 (ho : o.op = .call { callee := .builtin .append, args := #[s, x], argTypes := #[t, t] })
 (e : TypeId) (i : TypeInfo) (z : Value) (size bytes : Nat) (ht : P.underlying t = some (.slice e)) (hi : P.info? e = some i) (hz : i.zero = some z)
 (hsize : i.size = size) (hby : i.bytes = bytes) (hzs : z.cells.size = size) (ad0 : Option Addr) (n : Nat) (hs : a.eval s = .slice ad0 n n) (h0 : n = 0 ∨ ∃ b, ad0 = some b)
 (olds : List Value) (hlo : olds.length = n * size) (holds : ∀ j v, olds[j]? = some v → ∃ b, ad0 = some b ∧ w.cell? (b.add j) = some v)
 (ad : Addr) (m c : Nat) (news : List Value) (hx : a.eval x = .slice (some ad) m c) (hl : news.length = m * size) (hnews : ∀ j u, news[j]? = some u → w.cell? (ad.add j) = some u)
 (hm : 0 < m) (h63 : n + m ≤ maxLen) (hbytes : (n + m) * bytes ≤ 140737488355328)
 (h : ∀ cap w', w'.ownsRow w.heap.size e size (.slice (some ⟨w.heap.size, 0, none⟩) (n + m) cap) (n + m) (olds ++ news) → Ext w w' →
  K (a.put o.dst (.slice (some ⟨w.heap.size, 0, none⟩) (n + m) cap)) w') : o.wp P a w K Q := by
 subst hsize
 subst hby
 have hsmall : n + m ≤ 9223372036854775807 := by simp only [maxLen] at h63; omega
 have hge := grownCap_ge w (n + m) n e
 have hcm : grownCap w (n + m) n e ≤ maxLen := grownCap_le_maxLen w (n + m) n e h63
 have hr : (Builtin.append_ #[t, t] o.type #[.slice ad0 n n, .slice (some ad) m c]).run P w =
  .ok (.slice (some ⟨w.heap.size, 0, none⟩) (n + m) (grownCap w (n + m) n e)) (w.drew.alloc (.cells (olds.toArray ++ news.toArray ++ Builtin.zeroCells z.cells (grownCap w (n + m) n e - (n + m))) e)) := by
  cases ad0 with
  | none =>
   obtain rfl : n = 0 := by rcases h0 with h0 | ⟨b, hb⟩; exact h0; cases hb
   obtain rfl : olds = [] := List.eq_nil_of_length_eq_zero (by simpa using hlo)
   have := run_append_nil (P := P) w t o.type e i z ht hi hz ad m c news hl hnews hm (by omega) (by rw [Nat.zero_add] at hbytes; omega)
   simpa using this
  | some b =>
   exact run_append_grow (P := P) w t o.type e i z ht hi hz b n n olds hlo (fun j v hv => by obtain ⟨b', hb, hc⟩ := holds j v hv; cases hb; exact hc) ad m c news hl hnews (by omega) (by omega) (growslice_fits (by omega) hbytes)
 unfold Oper.wp execOp
 simp only [ho, resolve, invoke, builtin, Sem.run_bind, Sem.run_pure, Result.andThen_ok, List.map_toArray, List.map_cons, List.map_nil, hs, hx, hr]
 refine h _ _ ⟨by rw [List.length_append, hlo, hl, Nat.add_mul], .inr ⟨w.heap.size, _, _, rfl, Nat.le_refl _, heap_alloc_new w.drew _, hge, hcm, ?_, ?_⟩⟩ ((Ext.refl w).drew.alloc _)
 ·simp only [Array.size_append, List.size_toArray, size_zeroCells, hzs, hlo, hl, ← Nat.add_mul]
  congr 1
  omega
 ·simp only [Array.toList_append, List.append_assoc]
  rw [← List.append_assoc, Nat.add_mul, ← hlo, ← hl, ← List.length_append]
  exact List.take_left


theorem cellsP_set (l : List (Int × Int)) : ∀ j y, j < l.length → cellsP (l.set j (pa l j, y)) = (cellsP l).set (j * 2 + 1) (.int .i64 y) := by
 induction l with
 | nil => intro j y hj; simp at hj
 | cons p l ih =>
  intro j y hj
  cases j with
  | zero => simp [cellsP, pa]
  | succ j =>
   have := ih j y (by simpa using hj)
   rw [show (j + 1) * 2 + 1 = j * 2 + 1 + 1 + 1 by omega]
   simpa [cellsP, pa] using this
theorem OwnP.set2 {w : World} {base : Nat} {e : TypeId} {b n cap : Nat} {l : List (Int × Int)} (h : OwnP w base e (.slice (some ⟨b, 0, none⟩) n cap) l) {j : Nat} (hj : j < l.length) (y : Int) :
 OwnP (w.setCell ⟨b, j * 2 + 1, none⟩ (.int .i64 y)) base e (.slice (some ⟨b, 0, none⟩) n cap) (l.set j (pa l j, y)) := by
 obtain ⟨h1, h2 | ⟨g, cap', cur, hv, hb, hg, hn, hm, hs, ht⟩⟩ := h
 ·simp at h2
 ·cases hv
  refine ⟨by rw [cellsP_len], .inr ⟨b, cap, cur.setIfInBounds (j * 2 + 1) (.int .i64 y), by simp, hb, ?_, by simpa using hn, hm, by simpa using hs, ?_⟩⟩
  ·simp only [World.setCell]
   rw [Array.getElem?_modify]
   simp [hg]
  ·rw [List.length_set, Array.toList_setIfInBounds, cellsP_set l j y hj, ← ht, List.take_set]
theorem OwnP.setExt {w : World} {base : Nat} {e : TypeId} {b n cap : Nat} {l : List (Int × Int)} (h : OwnP w base e (.slice (some ⟨b, 0, none⟩) n cap) l) {w0 : World} (k : Ext w0 w) (hb : w0.heap.size ≤ base) (j : Nat) (v : Value) :
 Ext w0 (w.setCell ⟨b, j, none⟩ v) := k.setCell (by have := (OwnP.block h b rfl).1; simp; omega) v


theorem new20 {w : World} {x y : Value} {t : TypeId} {n : Nat} (h : n = w.heap.size) : (w.alloc (.cells #[x, y] t)).cell? ⟨n, 0, none⟩ = some x := by subst h; simp [go_sem]
theorem new21 {w : World} {x y : Value} {t : TypeId} {n : Nat} (h : n = w.heap.size) : (w.alloc (.cells #[x, y] t)).cell? ⟨n, 1, none⟩ = some y := by subst h; simp [go_sem]


theorem OwnP.mono {w : World} {base base' : Nat} {e : TypeId} {v : Value} {l : List (Int × Int)} (h : OwnP w base e v l) (hb : base' ≤ base) : OwnP w base' e v l := by
 obtain ⟨h1, h2 | ⟨g, cap', cur, hv, hg, r⟩⟩ := h
 ·exact ⟨h1, .inl h2⟩
 ·exact ⟨h1, .inr ⟨g, cap', cur, hv, by omega, r⟩⟩

theorem app_pair_full {P : Program} {w : World} {ops : Array Oper} {rest : List Oper} {o : Oper} {a : Act} {Q : Exit → Act → World → Prop} (hgd : o.guard = none) (s x : Operand) (t : TypeId)
 (ho : o.op = .call { callee := .builtin .append, args := #[s, x], argTypes := #[t, t] })
 (e : TypeId) (ht : P.underlying t = some (.slice e)) (he : ElemP P e) (l : List (Int × Int)) (y : Int × Int) (ad : Option Addr) (hs : a.eval s = .slice ad l.length l.length) (b0 : Nat) (hx : a.eval x = .slice (some ⟨b0, 0, none⟩) 1 1)
 (hP : Prs w ad l) (hc : w.cell? ⟨b0, 0, none⟩ = some (.int .i64 y.1)) (hd : w.cell? ⟨b0, 1, none⟩ = some (.int .i64 y.2)) (hl : l.length ≤ 1099511627776)
 (h : ∀ cap w', OwnP w' w.heap.size e (.slice (some ⟨w.heap.size, 0, none⟩) (l ++ [y]).length cap) (l ++ [y]) → Ext w w' →
  wpList P ops Q rest (a.put o.dst (.slice (some ⟨w.heap.size, 0, none⟩) (l ++ [y]).length cap)) w') : wpList P ops Q (o :: rest) a w := by
 obtain ⟨i, z, hi, hz, hzs, hsz, hby⟩ := he
 refine wpList_plain hgd fun K hK => appFull_wp s x t ho e i z 2 16 ht hi hz hsz hby hzs ad l.length hs ?_ (cellsP l) (cellsP_len l) ?_ _ 1 1 [.int .i64 y.1, .int .i64 y.2] hx rfl ?_ (by omega) (by unfold maxLen; omega) (by omega) fun cap w' ho' hE => ?_
 ·rcases Nat.eq_zero_or_pos l.length with h0 | h0
  ·exact .inl h0
  ·obtain ⟨b, off, hb, _⟩ := hP 0 h0
   exact .inr ⟨_, hb⟩
 ·intro j v hj
  have hj2 : j < l.length * 2 := by rw [← cellsP_len]; exact (List.getElem?_eq_some_iff.1 hj).1
  obtain ⟨b, off, hb, h1, h2⟩ := hP (j / 2) (by omega)
  refine ⟨_, hb, ?_⟩
  obtain ⟨g1, g2⟩ := cellsP_get l (j / 2) (by omega)
  have hadd : ∀ k, (⟨b, off, none⟩ : Addr).add k = ⟨b, off + k, none⟩ := by intro k; unfold Addr.add; split <;> simp_all
  rw [hadd]
  rcases Nat.mod_two_eq_zero_or_one j with hm | hm
  ·rw [show j = j / 2 * 2 by omega] at hj ⊢
   rw [g1] at hj; cases hj
   exact h1
  ·rw [show j = j / 2 * 2 + 1 by omega] at hj ⊢
   rw [g2] at hj; cases hj
   rw [← Nat.add_assoc]; exact h2
 ·intro j u hj
  match j, hj with
  | 0, hj => simp at hj; subst hj; simpa [Addr.add] using hc
  | 1, hj => simp at hj; subst hj; simpa [Addr.add] using hd
 ·have e1 : l.length + 1 = (l ++ [y]).length := by simp
  have e2 : cellsP l ++ [Value.int .i64 y.1, .int .i64 y.2] = cellsP (l ++ [y]) := by rw [cellsP_append]; rfl
  rw [e1, e2] at ho'
  have := hK _ _ (h cap w' ho' hE)
  rwa [← e1] at this

end Go.Proofs.Ytpnfhcnnodolbaa
namespace Go.Proofs.Ytpnfhcnnodolbaa.Game
set_option linter.unusedVariables false
set_option linter.unusedSimpArgs false

def sm : Nat → (Nat → Int) → Int
 | 0, _ => 0
 | n + 1, f => sm n f + f n
theorem sm_congr {n : Nat} {f g : Nat → Int} (h : ∀ i, i < n → f i = g i) : sm n f = sm n g := by
 induction n with
 | zero => rfl
 | succ k ih => simp only [sm]; rw [ih fun i hi => h i (by omega), h k (by omega)]
theorem sm_add (n : Nat) (f g : Nat → Int) : sm n (fun i => f i + g i) = sm n f + sm n g := by
 induction n with
 | zero => rfl
 | succ k ih => simp only [sm]; rw [ih]; omega
theorem sm_mul (n : Nat) (c : Int) (f : Nat → Int) : sm n (fun i => c * f i) = c * sm n f := by
 induction n with
 | zero => simp [sm]
 | succ k ih => simp only [sm]; rw [ih]; grind
theorem sm_le {n : Nat} {f g : Nat → Int} (h : ∀ i, i < n → f i ≤ g i) : sm n f ≤ sm n g := by
 induction n with
 | zero => simp [sm]
 | succ k ih => simp only [sm]; have := ih fun i hi => h i (by omega); have := h k (by omega); omega
theorem sm_zero {n : Nat} {f : Nat → Int} (h : ∀ i, i < n → f i = 0) : sm n f = 0 := by
 induction n with
 | zero => rfl
 | succ k ih => simp only [sm]; rw [ih fun i hi => h i (by omega), h k (by omega)]; rfl
theorem sm_nonneg {n : Nat} {f : Nat → Int} (h : ∀ i, i < n → 0 ≤ f i) : 0 ≤ sm n f := by
 have := sm_le (f := fun _ => 0) (g := f) h
 rwa [sm_zero (fun _ _ => rfl)] at this
theorem sm_one {n : Nat} {f : Nat → Int} (h : ∀ i, i < n → 0 ≤ f i) {i : Nat} (hi : i < n) : f i ≤ sm n f := by
 induction n with
 | zero => omega
 | succ k ih =>
  simp only [sm]
  have h0 := sm_nonneg (n := k) (f := f) fun i hi => h i (by omega)
  rcases Nat.lt_or_ge i k with g | g
  ·have := ih (fun i hi => h i (by omega)) g; have := h k (by omega); omega
  ·obtain rfl : i = k := by omega
   omega
theorem sm_pos {n : Nat} {f : Nat → Int} (h : ∀ i, i < n → 0 ≤ f i) {i : Nat} (hi : i < n) (hp : 0 < f i) : 0 < sm n f := by
 have := sm_one h hi; omega
theorem sm_pos_ex {n : Nat} {f : Nat → Int} (h : 0 < sm n f) : ∃ i, i < n ∧ 0 < f i := by
 induction n with
 | zero => simp [sm] at h
 | succ k ih =>
  simp only [sm] at h
  by_cases g : 0 < f k
  ·exact ⟨k, by omega, g⟩
  ·obtain ⟨i, hi, hp⟩ := ih (by omega)
   exact ⟨i, by omega, hp⟩
theorem sm_neg_ex {n : Nat} {f : Nat → Int} (h : sm n f < 0) : ∃ i, i < n ∧ f i < 0 := by
 induction n with
 | zero => simp [sm] at h
 | succ k ih =>
  simp only [sm] at h
  by_cases g : f k < 0
  ·exact ⟨k, by omega, g⟩
  ·obtain ⟨i, hi, hp⟩ := ih (by omega)
   exact ⟨i, by omega, hp⟩
theorem sm_swap (m n : Nat) (f : Nat → Nat → Int) : sm m (fun i => sm n (fun j => f i j)) = sm n (fun j => sm m (fun i => f i j)) := by
 induction m with
 | zero => simp only [sm]; exact (sm_zero fun _ _ => rfl).symm
 | succ k ih => simp only [sm]; rw [ih, ← sm_add]
theorem sm_mixed {n : Nat} {f : Nat → Int} (h : sm n f = 0) (hne : ∃ i, i < n ∧ f i ≠ 0) : ∃ i, i < n ∧ f i < 0 := by
 refine Classical.byContradiction fun hn => ?_
 have hnn : ∀ i, i < n → 0 ≤ f i := fun i hi => by
  refine Int.not_lt.1 fun hl => hn ⟨i, hi, hl⟩
 obtain ⟨i, hi, h0⟩ := hne
 have := sm_pos hnn hi (by have := hnn i hi; omega)
 omega

def cn : Nat → (Nat → Bool) → Nat
 | 0, _ => 0
 | n + 1, f => cn n f + (if f n then 1 else 0)
theorem cn_le {n : Nat} {f g : Nat → Bool} (h : ∀ i, i < n → f i = true → g i = true) : cn n f ≤ cn n g := by
 induction n with
 | zero => simp [cn]
 | succ k ih =>
  simp only [cn]
  have := ih fun i hi => h i (by omega)
  have := h k (by omega)
  cases hf : f k <;> cases hg : g k <;> simp_all <;> omega
theorem cn_lt {n : Nat} {f g : Nat → Bool} (h : ∀ i, i < n → f i = true → g i = true) {i : Nat} (hi : i < n) (hf : f i = false) (hg : g i = true) : cn n f < cn n g := by
 induction n with
 | zero => omega
 | succ k ih =>
  simp only [cn]
  rcases Nat.lt_or_ge i k with hk | hk
  ·have := ih (fun i hi => h i (by omega)) hk
   have := h k (by omega)
   cases hf : f k <;> cases hg : g k <;> simp_all <;> omega
  ·obtain rfl : i = k := by omega
   have := cn_le (n := i) (f := f) (g := g) fun i hi => h i (by omega)
   rw [hf, hg]; simp; omega

theorem ratio_trans {a b c d e f : Int} (hd : 0 < d) (hb : 0 < b) (hf : 0 < f) (h1 : a * d ≤ c * b) (h2 : c * f ≤ e * d) : a * f ≤ e * b := by
 have h3 : a * d * f ≤ c * b * f := Int.mul_le_mul_of_nonneg_right h1 (by omega)
 have h4 : c * f * b ≤ e * d * b := Int.mul_le_mul_of_nonneg_right h2 (by omega)
 have e1 : a * d * f = (a * f) * d := by grind
 have e2 : c * b * f = c * f * b := by grind
 have e3 : e * d * b = (e * b) * d := by grind
 rw [e1, e2] at h3
 rw [e3] at h4
 exact Int.le_of_mul_le_mul_right (Int.le_trans h3 h4) hd
theorem min_ratio (B : Nat → Prop) (p q : Nat → Int) : ∀ N, (∀ i, i < N → B i → 0 < q i) → (∃ i, i < N ∧ B i) → ∃ i, i < N ∧ B i ∧ ∀ j, j < N → B j → p i * q j ≤ p j * q i
 | 0, _, h => by obtain ⟨i, hi, _⟩ := h; omega
 | N + 1, hq, h => by
  by_cases hN : ∃ i, i < N ∧ B i
  ·obtain ⟨i, hi, hB, hm⟩ := min_ratio B p q N (fun i hi => hq i (by omega)) hN
   by_cases hb : B N ∧ ¬ (p i * q N ≤ p N * q i)
   ·refine ⟨N, by omega, hb.1, fun j hj hBj => ?_⟩
    rcases Nat.lt_or_ge j N with g | g
    ·exact ratio_trans (hq i (by omega) hB) (hq N (by omega) hb.1) (hq j (by omega) hBj) (by omega) (hm j g hBj)
    ·obtain rfl : j = N := by omega
     exact Int.le_refl _
   ·refine ⟨i, by omega, hB, fun j hj hBj => ?_⟩
    rcases Nat.lt_or_ge j N with g | g
    ·exact hm j g hBj
    ·obtain rfl : j = N := by omega
     exact Classical.byContradiction fun hc => hb ⟨hBj, hc⟩
  ·obtain ⟨i, hi, hB⟩ := h
   obtain rfl : i = N := by
    rcases Nat.lt_or_ge i N with g | g
    ·exact absurd ⟨i, g, hB⟩ hN
    ·omega
   refine ⟨i, by omega, hB, fun j hj hBj => ?_⟩
   rcases Nat.lt_or_ge j i with g | g
   ·exact absurd ⟨j, g, hBj⟩ hN
   ·obtain rfl : j = i := by omega
    exact Int.le_refl _

def ag (A : Nat → Nat → Int) (m : Nat) (x : Nat → Int) (j : Nat) : Int := sm m fun i => x i * A i j
theorem ag_lin (A : Nat → Nat → Int) (m : Nat) (x z : Nat → Int) (P Q : Int) (j : Nat) : ag A m (fun i => Q * x i + P * z i) j = Q * ag A m x j + P * ag A m z j := by
 unfold ag
 rw [← sm_mul, ← sm_mul, ← sm_add]
 exact sm_congr fun i _ => by grind
theorem sm_lin (m : Nat) (x z : Nat → Int) (P Q : Int) : sm m (fun i => Q * x i + P * z i) = Q * sm m x + P * sm m z := by
 rw [← sm_mul, ← sm_mul, ← sm_add]
def ab (p : Int) : Int := if 0 ≤ p then p else -p
theorem ab_nonneg (p : Int) : 0 ≤ ab p := by unfold ab; split <;> omega
theorem ab_pos {p : Int} (h : p ≠ 0) : 0 < ab p := by unfold ab; split <;> omega
theorem ab_par {x y p q : Int} (hx : 0 < x) (hy : 0 < y) (h : x * p = y * q) : x * ab p = y * ab q := by
 unfold ab
 by_cases hp : 0 ≤ p
 ·have h1 : 0 ≤ x * p := Int.mul_nonneg (by omega) hp
  have hq : 0 ≤ q := by
   refine Int.not_lt.1 fun hq => ?_
   have := Int.mul_neg_of_pos_of_neg hy hq
   omega
  rw [if_pos hp, if_pos hq]; exact h
 ·have h1 : x * p < 0 := Int.mul_neg_of_pos_of_neg hx (by omega)
  have hq : ¬ 0 ≤ q := fun hq => by
   have := Int.mul_nonneg (Int.le_of_lt hy) hq
   omega
  rw [if_neg hp, if_neg hq, Int.mul_neg, Int.mul_neg, h]

def put : List Nat → List Int → Nat → Int
 | a :: s, p :: q, r => if r = a then p else put s q r
 | _, _, _ => 0
theorem put_zero : ∀ (s : List Nat) (p : List Int) (r : Nat), r ∉ s → put s p r = 0
 | [], _, _, _ => by simp [put]
 | _ :: _, [], _, _ => by simp [put]
 | a :: s, p :: q, r, h => by
  simp at h
  simp only [put, if_neg h.1]
  exact put_zero s q r h.2

theorem sm_split {m a : Nat} (f : Nat → Int) (h : a < m) : sm m f = f a + sm m fun i => if i = a then 0 else f i := by
 induction m with
 | zero => omega
 | succ k ih =>
  simp only [sm]
  rcases Nat.lt_or_ge a k with g | g
  ·rw [ih g, if_neg (by omega)]; omega
  ·obtain rfl : a = k := by omega
   rw [if_pos rfl, sm_congr (f := fun i => if i = a then 0 else f i) (g := f) (fun i hi => if_neg (by omega))]; omega
def ls (f : Nat → Int) : List Nat → Int
 | [] => 0
 | a :: s => f a + ls f s
theorem ls_congr {f g : Nat → Int} : ∀ s : List Nat, (∀ i ∈ s, f i = g i) → ls f s = ls g s
 | [], _ => rfl
 | a :: s, h => by simp only [ls]; rw [h a (by simp), ls_congr s fun i hi => h i (by simp [hi])]
theorem sm_list {m : Nat} : ∀ (s : List Nat) (f : Nat → Int), s.Nodup → (∀ a ∈ s, a < m) → (∀ i, i < m → i ∉ s → f i = 0) → sm m f = ls f s
 | [], f, _, _, h => sm_zero fun i hi => h i hi (by simp)
 | a :: s, f, hn, hl, h => by
  rw [List.nodup_cons] at hn
  rw [sm_split f (hl a (by simp)), sm_list s _ hn.2 (fun b hb => hl b (by simp [hb]))]
  ·simp only [ls]
   rw [ls_congr s fun i hi => if_neg (show ¬ i = a from fun e => hn.1 (e ▸ hi))]
  ·intro i hi his
   by_cases g : i = a
   ·rw [if_pos g]
   ·rw [if_neg g]; exact h i hi (by simp [g, his])

theorem sm_neg (n : Nat) (f : Nat → Int) : sm n (fun i => - f i) = - sm n f := by
 have := sm_mul n (-1) f
 rw [sm_congr (g := fun i => - f i) (fun i _ => by omega)] at this
 omega

end Go.Proofs.Ytpnfhcnnodolbaa.Game
