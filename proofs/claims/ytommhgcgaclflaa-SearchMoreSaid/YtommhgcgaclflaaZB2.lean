/- Texts of one proof, laid together: Mem, MemP, Game. -/
import Derived.WalkKit
import Derived.Below
import Derived.Deep.Draws
namespace Go.Proofs.Ytommhgcgaclflaa
set_option linter.unusedVariables false
set_option linter.unusedSimpArgs false
set_option linter.unusedSectionVars false
set_option linter.unnecessarySimpa false
open Go Go.RowKit

def nth (l : List Int) (i : Nat) : Int := l.getD i 0
theorem nth_lt {l : List Int} {i : Nat} (h : i < l.length) : nth l i = l[i] := by simp [nth, h]
theorem nth_nil (i : Nat) : nth [] i = 0 := by simp [nth]
theorem nth_zero (x : Int) (l : List Int) : nth (x :: l) 0 = x := by simp [nth]
theorem nth_succ (x : Int) (l : List Int) (i : Nat) : nth (x :: l) (i + 1) = nth l i := by simp [nth]
theorem nth_ext {l k : List Int} (h : l.length = k.length) (e : ∀ i, i < l.length → nth l i = nth k i) : l = k := by
 refine List.ext_getElem h fun i h1 h2 => ?_
 have := e i h1
 rwa [nth_lt h1, nth_lt h2] at this
theorem nth_append_left {l k : List Int} {i : Nat} (h : i < l.length) : nth (l ++ k) i = nth l i := by
 simp [nth, List.getElem?_append_left h]
theorem nth_append_right {l k : List Int} {i : Nat} (h : l.length ≤ i) : nth (l ++ k) i = nth k (i - l.length) := by
 simp [nth, List.getElem?_append_right h]
theorem nth_map_range (f : Nat → Int) (n i : Nat) (h : i < n) : nth ((List.range n).map f) i = f i := by
 simp [nth, h]

def Ext (w w' : World) : Prop := Below w.heap.size w w'

theorem Ext.refl (w : World) : Ext w w := Below.refl _ w
theorem Ext.below {w w' : World} (h : Ext w w') : Below w.heap.size w w' := h
theorem Ext.size {w w' : World} (h : Ext w w') : w.heap.size ≤ w'.heap.size := Below.size h
theorem Ext.trans {a b c : World} (h : Ext a b) (k : Ext b c) : Ext a c := Below.trans h (Below.mono k (Below.size h))
theorem Ext.drew {a b : World} (h : Ext a b) : Ext a b.drew := Below.drew h
theorem Ext.drewN {a b : World} (h : Ext a b) (n : Nat) : Ext a (b.drewN n) := by have h : Below a.heap.size a b := h; exact ⟨h.os, h.tape, h.output, h.size, h.block⟩
theorem Ext.alloc {a b : World} (h : Ext a b) (o : Obj) : Ext a (b.alloc o) := Below.alloc h (Below.size h) o
theorem Ext.setCell {a b : World} (h : Ext a b) {p : Addr} (hp : a.heap.size ≤ p.block) (u : Value) : Ext a (b.setCell p u) := Below.setCell h hp u
theorem Ext.grown {a b c : World} {row : Option Nat} (h : Ext a b) (hg : b.grownBy c row) (hr : ∀ k, row = some k → a.heap.size ≤ k) : Ext a c :=
 Below.grown h hg (Below.size h) hr

theorem cell_lt {w : World} {p : Addr} {v : Value} (h : w.cell? p = some v) : p.block < w.heap.size := by
 unfold World.cell? at h
 cases e : w.heap[p.block]? with
 | none => simp [e] at h
 | some o =>
  have := Array.getElem?_eq_some_iff.1 e
  exact this.1
theorem Ext.cell {w w' : World} (h : Ext w w') {p : Addr} {v : Value} (hc : w.cell? p = some v) : w'.cell? p = some v :=
 (Below.cell h (cell_lt hc)).trans hc
theorem Ext.frozen {w w' : World} (h : Ext w w') {p : Addr} (hp : p.block < w.heap.size) : w'.frozen? p = w.frozen? p := Below.frozen h hp
theorem Ext.heap {w w' : World} (h : Ext w w') {k : Nat} {o : Obj} (hc : w.heap[k]? = some o) : w'.heap[k]? = some o :=
 (Below.block h k (Array.getElem?_eq_some_iff.1 hc).1).trans hc
theorem lt_of_heap {w : World} {k : Nat} {o : Obj} (hc : w.heap[k]? = some o) : k < w.heap.size := (Array.getElem?_eq_some_iff.1 hc).1

def Ints (w : World) (a : Option Addr) (l : List Int) : Prop :=
 ∀ i, i < l.length → ∃ b off, a = some ⟨b, off, none⟩ ∧ w.cell? ⟨b, off + i, none⟩ = some (.int .i64 (nth l i))
theorem Ints.ext {w w' : World} {a : Option Addr} {l : List Int} (h : Ints w a l) (k : Ext w w') : Ints w' a l :=
 fun i hi => let ⟨b, off, ha, hc⟩ := h i hi; ⟨b, off, ha, k.cell hc⟩
theorem Ints.nil (w : World) (a : Option Addr) : Ints w a [] := fun i hi => absurd hi (by simp)
theorem Ints.at {w : World} {a : Option Addr} {l : List Int} (h : Ints w a l) (hl : 0 < l.length) :
 ∃ b off, a = some ⟨b, off, none⟩ ∧ b < w.heap.size ∧ ∀ i, i < l.length → w.cell? ⟨b, off + i, none⟩ = some (.int .i64 (nth l i)) := by
 obtain ⟨b, off, ha, hc⟩ := h 0 hl
 refine ⟨b, off, ha, cell_lt hc, fun i hi => ?_⟩
 obtain ⟨b', off', ha', hc'⟩ := h i hi
 rw [ha] at ha'
 cases ha'
 exact hc'

theorem hid {p : Prop} (h : p) : Hid p := h

def I64 (x : Int) : Prop := -9223372036854775808 ≤ x ∧ x ≤ 9223372036854775807

theorem ret_int {k : IntKind} {a b : Int} (h : a = b) : Ending.returned (.int k a) = .returned (.int k b) := by rw [h]
theorem ret2i {k k' : IntKind} {a b c d : Int} (h : a = c) (h' : b = d) : Ending.returned (.tuple #[.int k a, .int k' b]) = .returned (.tuple #[.int k c, .int k' d]) := by rw [h, h']
theorem ret3i {k k' k'' : IntKind} {a b c d e f : Int} (h : a = d) (h' : b = e) (h'' : c = f) : Ending.returned (.tuple #[.int k a, .int k' b, .int k'' c]) = .returned (.tuple #[.int k d, .int k' e, .int k'' f]) := by rw [h, h', h'']
theorem ret_bool {a b : Bool} (h : a = b) : Ending.returned (.bool a) = .returned (.bool b) := by rw [h]


theorem box3 {w w1 : World} {x y z : Value} {T : TypeId} (h : Ext (w.alloc (.cells #[x, y, z] T)) w1) :
 w1.cell? ⟨w.heap.size, 0, none⟩ = some x ∧ w1.cell? ⟨w.heap.size, 1, none⟩ = some y ∧ w1.cell? ⟨w.heap.size, 2, none⟩ = some z :=
 ⟨h.cell (by simp [go_sem]), h.cell (by simp [go_sem]), h.cell (by simp [go_sem])⟩

def sumTo (f : Nat → Int) : Nat → Int
 | 0 => 0
 | k + 1 => sumTo f k + f k
theorem sumTo_bd (f : Nat → Int) (B : Int) (n : Nat) (h : ∀ i, i < n → 0 ≤ f i ∧ f i ≤ B) : 0 ≤ sumTo f n ∧ sumTo f n ≤ B * n := by
 induction n with
 | zero => simp [sumTo]
 | succ n ih =>
  have := ih fun i hi => h i (by omega)
  have := h n (by omega)
  rw [show B * ((n + 1 : Nat) : Int) = B * n + B by rw [Int.natCast_add, Int.mul_add]; simp]
  simp only [sumTo]; omega
theorem sumTo_congr {f g : Nat → Int} {n : Nat} (h : ∀ i, i < n → f i = g i) : sumTo f n = sumTo g n := by
 induction n with
 | zero => rfl
 | succ n ih => simp only [sumTo]; rw [ih fun i hi => h i (by omega), h n (by omega)]


def ElemI (P : Program) (e : TypeId) : Prop := ∃ i, P.info? e = some i ∧ i.zero = some (.int .i64 0) ∧ i.size = 1 ∧ i.bytes = 8
theorem elemI_mk {P : Program} {e : TypeId} (h : (P.info? e).map (fun i => (i.zero, i.size, i.bytes)) = some (some (.int .i64 0), 1, 8)) : ElemI P e := by
 cases hi : P.info? e with
 | none => simp [hi] at h
 | some i =>
  simp [hi] at h
  exact ⟨i, hi, h.1, h.2.1, h.2.2⟩

def OwnI (w : World) (base : Nat) (e : TypeId) (v : Value) (l : List Int) : Prop := w.ownsRow base e 1 v l.length (l.map (Value.int .i64))
theorem OwnI.nil (w : World) (base : Nat) (e : TypeId) : OwnI w base e (.slice none 0 0) [] := World.ownsRow_nil w base e 1
theorem OwnI.ext {w w' : World} {base : Nat} {e : TypeId} {v : Value} {l : List Int} (h : OwnI w base e v l) (k : Ext w w') : OwnI w' base e v l :=
 World.ownsRow.kept (row := none) h ⟨Below.os k, Below.tape k, Below.output k, Below.size k, fun i hi _ => Below.block k i hi⟩ (by cases v.ownBlock <;> simp)
theorem OwnI.slice {w : World} {base : Nat} {e : TypeId} {v : Value} {l : List Int} (h : OwnI w base e v l) : ∃ a cap, v = .slice a l.length cap ∧ Ints w a l := by
 rcases h with ⟨h1, ⟨rfl, h2⟩ | ⟨g, cap, cur, rfl, hb, hg, hn, hm, hs, ht⟩⟩
 ·obtain rfl : l = [] := List.eq_nil_of_length_eq_zero h2
  exact ⟨none, 0, rfl, Ints.nil _ _⟩
 ·refine ⟨_, cap, rfl, fun i hi => ⟨g, 0, rfl, ?_⟩⟩
  have : (cur.toList.take (l.length * 1))[i]? = some (.int .i64 (nth l i)) := by
   rw [ht]; simp [nth, hi]
  rw [List.getElem?_take] at this
  split at this
  ·unfold World.cell?
   simp only [hg, Option.isSome_none, Bool.false_eq_true, if_false, Nat.zero_add]
   simpa using this
  ·cases this
theorem OwnI.block {w : World} {base : Nat} {e : TypeId} {v : Value} {l : List Int} (h : OwnI w base e v l) : ∀ k, v.ownBlock = some k → base ≤ k ∧ k < w.heap.size := World.ownsRow.lt h

theorem app_int {P : Program} {w : World} {ops : Array Oper} {rest : List Oper} {o : Oper} {a : Act} {Q : Exit → Act → World → Prop} (hgd : o.guard = none) (s x : Operand) (t : TypeId)
 (ho : o.op = .call { callee := .builtin .append, args := #[s, x], argTypes := #[t, t] })
 (e : TypeId) (ht : P.underlying t = some (.slice e)) (he : ElemI P e) (base : Nat) (l : List Int) (y : Int) (v : Value) (hs : a.eval s = v) (ad : Addr) (hx : a.eval x = .slice (some ad) 1 1)
 (hown : OwnI w base e v l) (hc : w.cell? ad = some (.int .i64 y)) (hl : l.length ≤ 1099511627776) (hbase : base ≤ w.heap.size)
 (h : ∀ b cap w', OwnI w' base e (.slice (some ⟨b, 0, none⟩) (l ++ [y]).length cap) (l ++ [y]) → (∀ w0, Ext w0 w → w0.heap.size ≤ base → Ext w0 w') → base ≤ b →
  w.grownBy w' v.ownBlock → wpList P ops Q rest (a.put o.dst (.slice (some ⟨b, 0, none⟩) (l ++ [y]).length cap)) w') : wpList P ops Q (o :: rest) a w := by
 obtain ⟨i, hi, hz, hsz, hby⟩ := he
 refine wpList_append_own w hgd s x t ho base e i (.int .i64 0) 1 8 ht hi hz hsz hby rfl (by decide) v l.length _ hs hown ad 1 1 [.int .i64 y] hx rfl ?_ ?_ ?_ ?_ hbase ?_
 ·intro j u hj
  match j, hj with
  | 0, hj => simp at hj; subst hj; simpa [Addr.add] using hc
 ·intro u hu
  simp at hu; subst hu; rfl
 ·unfold maxLen; omega
 ·omega
 ·intro v' w' hown' hg hn
  have hv : ¬ v' = .slice none 0 0 := fun e => by have := (hn.1 e).2; simp at this
  rcases hown'.2 with ⟨e1, _⟩ | ⟨g, cap, cur, rfl, hb, r⟩
  ·exact absurd e1 hv
  ·have e : l.length + 1 = (l ++ [y]).length := by simp
   have e2 : l.map (Value.int .i64) ++ [Value.int .i64 y] = (l ++ [y]).map (Value.int .i64) := by simp
   rw [e, e2] at hown'
   rw [e]
   exact h g cap w' hown' (fun w0 k0 hw0 => Ext.grown k0 hg fun k hk => by have := (OwnI.block hown k hk).1; omega) hb hg


theorem OwnI.made (w : World) {base : Nat} (hb : base ≤ w.heap.size) (e : TypeId) : OwnI (w.alloc (.cells #[] e)) base e (.slice (some ⟨w.heap.size, 0, none⟩) 0 0) [] :=
 World.ownsRow_made w #[] 0 hb (by unfold maxLen; omega) rfl

theorem appI_wp {P : Program} {w : World} {o : Oper} {a : Act} {K : Act → World → Prop} {Q : Exit → Act → World → Prop} (s x : Operand) (t : TypeId)
 (ho : o.op = .call { callee := .builtin .append, args := #[s, x], argTypes := #[t, t] })
 (e : TypeId) (ht : P.underlying t = some (.slice e)) (he : ElemI P e) (base : Nat) (l k : List Int) (v : Value) (hs : a.eval s = v) (ad : Option Addr) (c : Nat) (hx : a.eval x = .slice ad k.length c)
 (hown : OwnI w base e v l) (hc : Ints w ad k) (hk : 0 < k.length) (hl : l.length + k.length ≤ 1099511627776) (hbase : base ≤ w.heap.size)
 (h : ∀ b cap w', OwnI w' base e (.slice (some ⟨b, 0, none⟩) (l ++ k).length cap) (l ++ k) → (∀ w0, Ext w0 w → w0.heap.size ≤ base → Ext w0 w') → base ≤ b →
  K (a.put o.dst (.slice (some ⟨b, 0, none⟩) (l ++ k).length cap)) w') : o.wp P a w K Q := by
 obtain ⟨i, hi, hz, hsz, hby⟩ := he
 obtain ⟨b0, off0, rfl, _, hcell⟩ := hc.at hk
 refine wp_append_own w s x t ho base e i (.int .i64 0) 1 8 ht hi hz hsz hby rfl (by decide) v l.length _ hs hown _ k.length c (k.map (Value.int .i64)) hx (by simp) ?_ ?_ ?_ ?_ hbase ?_
 ·intro j u hj
  simp only [List.getElem?_map, Option.map_eq_some_iff] at hj
  obtain ⟨z, hz, rfl⟩ := hj
  obtain ⟨hj, rfl⟩ := List.getElem?_eq_some_iff.1 hz
  have := hcell j hj
  rw [nth_lt hj] at this
  rw [← this]
  unfold Addr.add
  split
  ·rename_i h0; subst h0; rfl
  ·rfl
 ·intro u hu
  simp at hu
  obtain ⟨z, _, rfl⟩ := hu
  rfl
 ·unfold maxLen; omega
 ·omega
 ·intro v' w' hown' hg hn
  have hv : ¬ v' = .slice none 0 0 := fun e => by have := (hn.1 e).2; omega
  rcases hown'.2 with ⟨e1, _⟩ | ⟨g, cap, cur, rfl, hb, r⟩
  ·exact absurd e1 hv
  ·have e : l.length + k.length = (l ++ k).length := by simp
   have e2 : l.map (Value.int .i64) ++ k.map (Value.int .i64) = (l ++ k).map (Value.int .i64) := by simp
   rw [e, e2] at hown'
   rw [e]
   exact h g cap w' hown' (fun w0 k0 hw0 => Ext.grown k0 hg fun k hk => by have := (OwnI.block hown k hk).1; omega) hb

theorem OwnI.set {w : World} {base : Nat} {e : TypeId} {b cap : Nat} {l : List Int} (h : OwnI w base e (.slice (some ⟨b, 0, none⟩) l.length cap) l) {i : Nat} (y : Int) :
 OwnI (w.setCell ⟨b, i, none⟩ (.int .i64 y)) base e (.slice (some ⟨b, 0, none⟩) (l.set i y).length cap) (l.set i y) := by
 obtain ⟨h1, h2 | ⟨g, cap', cur, hv, hb, hg, hn, hm, hs, ht⟩⟩ := h
 ·simp at h2
 ·cases hv
  refine ⟨by simp, .inr ⟨b, cap, cur.setIfInBounds i (.int .i64 y), by simp, hb, ?_, by simpa using hn, hm, by simpa using hs, ?_⟩⟩
  ·simp only [World.setCell]
   rw [Array.getElem?_modify]
   simp [hg]
  ·simp only [Nat.mul_one] at ht ⊢
   rw [List.length_set, Array.toList_setIfInBounds, List.map_set, ← ht, List.take_set]


theorem appFresh_wp {P : Program} {w : World} {o : Oper} {a : Act} {K : Act → World → Prop} {Q : Exit → Act → World → Prop} (s x : Operand) (t : TypeId)
 (ho : o.op = .call { callee := .builtin .append, args := #[s, x], argTypes := #[t, t] })
 (e : TypeId) (i : TypeInfo) (z : Value) (size bytes : Nat) (ht : P.underlying t = some (.slice e)) (hi : P.info? e = some i) (hz : i.zero = some z)
 (hsize : i.size = size) (hby : i.bytes = bytes) (hzs : z.cells.size = size) (ad0 : Option Addr) (hs : a.eval s = .slice ad0 0 0)
 (ad : Addr) (m c : Nat) (news : List Value) (hx : a.eval x = .slice (some ad) m c) (hl : news.length = m * size) (hnews : ∀ j u, news[j]? = some u → w.cell? (ad.add j) = some u)
 (hm : 0 < m) (h63 : m ≤ maxLen) (hbytes : m * bytes ≤ 140737488355328)
 (h : ∀ cap w', w'.ownsRow w.heap.size e size (.slice (some ⟨w.heap.size, 0, none⟩) m cap) m news → Ext w w' →
  K (a.put o.dst (.slice (some ⟨w.heap.size, 0, none⟩) m cap)) w') : o.wp P a w K Q := by
 subst hsize
 subst hby
 have hsmall : m ≤ 9223372036854775807 := by simp only [maxLen] at h63; omega
 have hge := grownCap_ge w m 0 e
 have hcm : grownCap w m 0 e ≤ maxLen := grownCap_le_maxLen w m 0 e h63
 have hr : (Builtin.append_ #[t, t] o.type #[.slice ad0 0 0, .slice (some ad) m c]).run P w =
  .ok (.slice (some ⟨w.heap.size, 0, none⟩) m (grownCap w m 0 e)) (w.drew.alloc (.cells (news.toArray ++ Builtin.zeroCells z.cells (grownCap w m 0 e - m)) e)) := by
  cases ad0 with
  | none => exact run_append_nil (P := P) w t o.type e i z ht hi hz ad m c news hl hnews hm (by omega) (by omega)
  | some b =>
   have := run_append_grow (P := P) w t o.type e i z ht hi hz b 0 0 [] (by simp) (by simp) ad m c news hl hnews (by omega) (by omega) (growslice_fits (by omega) (by simpa using hbytes))
   simpa using this
 unfold Oper.wp execOp
 simp only [ho, resolve, invoke, builtin, Sem.run_bind, Sem.run_pure, Result.andThen_ok, List.map_toArray, List.map_cons, List.map_nil, hs, hx, hr]
 refine h _ _ ⟨hl, .inr ⟨w.heap.size, _, _, rfl, Nat.le_refl _, heap_alloc_new w.drew _, hge, hcm, ?_, ?_⟩⟩ ((Ext.refl w).drew.alloc _)
 ·simp only [Array.size_append, List.size_toArray, size_zeroCells, hzs, hl, ← Nat.add_mul]
  congr 1
  omega
 ·simp only [Array.toList_append]
  rw [← hl]
  exact List.take_left

theorem appFreshI_wp {P : Program} {w : World} {o : Oper} {a : Act} {K : Act → World → Prop} {Q : Exit → Act → World → Prop} (s x : Operand) (t : TypeId)
 (ho : o.op = .call { callee := .builtin .append, args := #[s, x], argTypes := #[t, t] })
 (e : TypeId) (ht : P.underlying t = some (.slice e)) (he : ElemI P e) (k : List Int) (ad0 : Option Addr) (hs : a.eval s = .slice ad0 0 0) (ad : Option Addr) (c : Nat) (hx : a.eval x = .slice ad k.length c)
 (hc : Ints w ad k) (hk : 0 < k.length) (hl : k.length ≤ 1099511627776)
 (h : ∀ cap w', OwnI w' w.heap.size e (.slice (some ⟨w.heap.size, 0, none⟩) k.length cap) k → Ext w w' →
  K (a.put o.dst (.slice (some ⟨w.heap.size, 0, none⟩) k.length cap)) w') : o.wp P a w K Q := by
 obtain ⟨i, hi, hz, hsz, hby⟩ := he
 obtain ⟨b0, off0, rfl, _, hcell⟩ := hc.at hk
 refine appFresh_wp s x t ho e i (.int .i64 0) 1 8 ht hi hz hsz hby rfl ad0 hs _ k.length c (k.map (Value.int .i64)) hx (by simp) ?_ hk (by unfold maxLen; omega) (by omega) h
 intro j u hj
 simp only [List.getElem?_map, Option.map_eq_some_iff] at hj
 obtain ⟨z, hz, rfl⟩ := hj
 obtain ⟨hj, rfl⟩ := List.getElem?_eq_some_iff.1 hz
 have := hcell j hj
 rw [nth_lt hj] at this
 rw [← this]
 unfold Addr.add
 split
 ·rename_i h0; subst h0; rfl
 ·rfl


theorem Ext.rules {w w' : World} (h : Ext w w') : (∀ b o, b < w.heap.size → w'.cell? ⟨b, o, none⟩ = w.cell? ⟨b, o, none⟩) ∧ (∀ b o, b < w.heap.size → w'.frozen? ⟨b, o, none⟩ = w.frozen? ⟨b, o, none⟩) ∧ w.heap.size ≤ w'.heap.size :=
 ⟨fun _ _ hb => Below.cell h hb, fun _ _ hb => Below.frozen h hb, Below.size h⟩


theorem OwnI.facts {w : World} {base : Nat} {e : TypeId} {b n cap : Nat} {l : List Int} (h : OwnI w base e (.slice (some ⟨b, 0, none⟩) n cap) l) {j : Nat} (hj : j < l.length) :
 w.cell? ⟨b, j, none⟩ = some (.int .i64 (nth l j)) ∧ w.frozen? ⟨b, j, none⟩ = false ∧ n = l.length ∧ b < w.heap.size := by
 obtain ⟨a, cp, hv, hi⟩ := h.slice
 cases hv
 obtain ⟨b', off, e, hc⟩ := hi j hj
 cases e
 obtain ⟨h1, h2 | ⟨g, cap', cur, hv, hb, hg, r⟩⟩ := h
 ·simp at h2
 ·cases hv
  exact ⟨by simpa using hc, by simp [World.frozen?, hg], rfl, lt_of_heap hg⟩


theorem Ints.put {w : World} {b off : Nat} {l : List Int} (h : Ints w (some ⟨b, off, none⟩) l) {p : Addr} (hne : p.block ≠ b) (v : Value) : Ints (w.setCell p v) (some ⟨b, off, none⟩) l := by
 intro i hi
 obtain ⟨b', off', e, hc⟩ := h i hi
 cases e
 refine ⟨b, off, rfl, ?_⟩
 rw [← hc]
 exact World.cell?_of_block (Below.heap_setCell w p v b (Ne.symm hne))

theorem Ints.alloc {w : World} {a : Option Addr} {l : List Int} (h : Ints w a l) (o : Obj) : Ints (w.alloc o) a l := h.ext ((Ext.refl w).alloc o)
theorem Ints.drew {w : World} {a : Option Addr} {l : List Int} (h : Ints w a l) : Ints w.drew a l := h.ext (Ext.refl w).drew

theorem OwnI.put {w : World} {base : Nat} {e : TypeId} {b n cap : Nat} {l : List Int} (h : OwnI w base e (.slice (some ⟨b, 0, none⟩) n cap) l) {p : Addr} (hne : p.block ≠ b) (v : Value) :
 OwnI (w.setCell p v) base e (.slice (some ⟨b, 0, none⟩) n cap) l := by
 obtain ⟨h1, h2 | ⟨g, cap', cur, hv, hb, hg, r⟩⟩ := h
 ·simp at h2
 ·cases hv
  exact ⟨h1, .inr ⟨b, cap, cur, rfl, hb, (Below.heap_setCell w p v b (Ne.symm hne)).trans hg, r⟩⟩


theorem ints_row {w : World} {g : Nat} {arr : Array Value} {e : TypeId} {l : List Int} (hg : w.heap[g]? = some (.cells arr e (0, 0))) (h : ∀ i, i < l.length → arr[i]? = some (.int .i64 (nth l i))) : Ints w (some ⟨g, 0, none⟩) l := by
 intro i hi
 refine ⟨g, 0, rfl, ?_⟩
 unfold World.cell?
 simp only [hg, Option.isSome_none, Bool.false_eq_true, if_false, Nat.zero_add]
 exact h i hi
theorem Ext.setRow {a b : World} (h : Ext a b) {g : Nat} (hg : a.heap.size ≤ g) (cs : Array Value) : Ext a (b.setRow g cs) :=
 Below.trans h ⟨rfl, rfl, rfl, by simp, fun k hk => setRow_other b g k cs (by omega)⟩


theorem OwnI.mono {w : World} {base base' : Nat} {e : TypeId} {v : Value} {l : List Int} (h : OwnI w base e v l) (hb : base' ≤ base) : OwnI w base' e v l := by
 obtain ⟨h1, h2 | ⟨g, cap', cur, hv, hg, r⟩⟩ := h
 ·exact ⟨h1, .inl h2⟩
 ·exact ⟨h1, .inr ⟨g, cap', cur, hv, by omega, r⟩⟩

end Go.Proofs.Ytommhgcgaclflaa
namespace Go.Proofs.Ytommhgcgaclflaa
set_option linter.unusedVariables false
set_option linter.unusedSimpArgs false
set_option linter.unusedSectionVars false
set_option linter.unnecessarySimpa false
open Go Go.RowKit

def pa (l : List (Int × Int)) (i : Nat) : Int := (l.getD i (0, 0)).1
def pb (l : List (Int × Int)) (i : Nat) : Int := (l.getD i (0, 0)).2
theorem pa_lt {l : List (Int × Int)} {i : Nat} (h : i < l.length) : pa l i = l[i].1 := by simp [pa, h]
theorem pb_lt {l : List (Int × Int)} {i : Nat} (h : i < l.length) : pb l i = l[i].2 := by simp [pb, h]
theorem pab_lt {l : List (Int × Int)} {i : Nat} (h : i < l.length) : l[i] = (pa l i, pb l i) := by rw [pa_lt h, pb_lt h]

def Prs (w : World) (a : Option Addr) (l : List (Int × Int)) : Prop :=
 ∀ i, i < l.length → ∃ b off, a = some ⟨b, off, none⟩ ∧ w.cell? ⟨b, off + i * 2, none⟩ = some (.int .i64 (pa l i)) ∧ w.cell? ⟨b, off + i * 2 + 1, none⟩ = some (.int .i64 (pb l i))
theorem Prs.ext {w w' : World} {a : Option Addr} {l : List (Int × Int)} (h : Prs w a l) (k : Ext w w') : Prs w' a l :=
 fun i hi => let ⟨b, off, ha, hc, hd⟩ := h i hi; ⟨b, off, ha, k.cell hc, k.cell hd⟩
theorem Prs.nil (w : World) (a : Option Addr) : Prs w a [] := fun i hi => absurd hi (by simp)
theorem Prs.at {w : World} {a : Option Addr} {l : List (Int × Int)} (h : Prs w a l) (hl : 0 < l.length) :
 ∃ b off, a = some ⟨b, off, none⟩ ∧ b < w.heap.size ∧ ∀ i, i < l.length → w.cell? ⟨b, off + i * 2, none⟩ = some (.int .i64 (pa l i)) ∧ w.cell? ⟨b, off + i * 2 + 1, none⟩ = some (.int .i64 (pb l i)) := by
 obtain ⟨b, off, ha, hc, _⟩ := h 0 hl
 refine ⟨b, off, ha, cell_lt hc, fun i hi => ?_⟩
 obtain ⟨b', off', ha', hc'⟩ := h i hi
 rw [ha] at ha'
 cases ha'
 exact hc'

def cellsP : List (Int × Int) → List Value
 | [] => []
 | p :: l => .int .i64 p.1 :: .int .i64 p.2 :: cellsP l
theorem cellsP_len (l : List (Int × Int)) : (cellsP l).length = l.length * 2 := by induction l <;> simp [cellsP, *]; omega
theorem cellsP_append (l k : List (Int × Int)) : cellsP (l ++ k) = cellsP l ++ cellsP k := by induction l <;> simp [cellsP, *]
theorem cellsP_get (l : List (Int × Int)) : ∀ i, i < l.length → (cellsP l)[i * 2]? = some (.int .i64 (pa l i)) ∧ (cellsP l)[i * 2 + 1]? = some (.int .i64 (pb l i)) := by
 induction l with
 | nil => intro i hi; simp at hi
 | cons p l ih =>
  intro i hi
  cases i with
  | zero => simp [cellsP, pa, pb]
  | succ i =>
   have := ih i (by simpa using hi)
   rw [show (i + 1) * 2 = i * 2 + 1 + 1 by omega]
   simpa [cellsP, pa, pb] using this

def OwnP (w : World) (base : Nat) (e : TypeId) (v : Value) (l : List (Int × Int)) : Prop := w.ownsRow base e 2 v l.length (cellsP l)
theorem OwnP.nil (w : World) (base : Nat) (e : TypeId) : OwnP w base e (.slice none 0 0) [] := World.ownsRow_nil w base e 2
theorem OwnP.ext {w w' : World} {base : Nat} {e : TypeId} {v : Value} {l : List (Int × Int)} (h : OwnP w base e v l) (k : Ext w w') : OwnP w' base e v l :=
 World.ownsRow.kept (row := none) h ⟨Below.os k, Below.tape k, Below.output k, Below.size k, fun i hi _ => Below.block k i hi⟩ (by cases v.ownBlock <;> simp)
theorem OwnP.block {w : World} {base : Nat} {e : TypeId} {v : Value} {l : List (Int × Int)} (h : OwnP w base e v l) : ∀ k, v.ownBlock = some k → base ≤ k ∧ k < w.heap.size := World.ownsRow.lt h
theorem row_cell {w : World} {g : Nat} {cur : Array Value} {e : TypeId} {n : Nat} {xs : List Value} (hg : w.heap[g]? = some (.cells cur e (0, 0))) (ht : cur.toList.take n = xs) {j : Nat} {u : Value} (hj : xs[j]? = some u) :
 w.cell? ⟨g, j, none⟩ = some u := by
 rw [← ht, List.getElem?_take] at hj
 split at hj
 ·unfold World.cell?
  simp only [hg, Option.isSome_none, Bool.false_eq_true, if_false]
  simpa using hj
 ·cases hj
theorem OwnP.slice {w : World} {base : Nat} {e : TypeId} {v : Value} {l : List (Int × Int)} (h : OwnP w base e v l) : ∃ a cap, v = .slice a l.length cap ∧ l.length ≤ cap ∧ Prs w a l := by
 rcases h with ⟨h1, ⟨rfl, h2⟩ | ⟨g, cap, cur, rfl, hb, hg, hn, hm, hs, ht⟩⟩
 ·obtain rfl : l = [] := List.eq_nil_of_length_eq_zero h2
  exact ⟨none, 0, rfl, Nat.le_refl _, Prs.nil _ _⟩
 ·refine ⟨_, cap, rfl, hn, fun i hi => ⟨g, 0, rfl, ?_, ?_⟩⟩
  ·rw [Nat.zero_add]; exact row_cell hg ht (cellsP_get l i hi).1
  ·rw [Nat.zero_add]; exact row_cell hg ht (cellsP_get l i hi).2
theorem OwnP.facts {w : World} {base : Nat} {e : TypeId} {b n cap : Nat} {l : List (Int × Int)} (h : OwnP w base e (.slice (some ⟨b, 0, none⟩) n cap) l) {j : Nat} (hj : j < l.length) :
 w.cell? ⟨b, j * 2, none⟩ = some (.int .i64 (pa l j)) ∧ w.cell? ⟨b, j * 2 + 1, none⟩ = some (.int .i64 (pb l j)) ∧ w.frozen? ⟨b, j * 2, none⟩ = false ∧ w.frozen? ⟨b, j * 2 + 1, none⟩ = false ∧ n = l.length ∧ b < w.heap.size := by
 obtain ⟨h1, h2 | ⟨g, cap', cur, hv, hb, hg, hn, hm, hs, ht⟩⟩ := h
 ·simp at h2
 ·cases hv
  exact ⟨row_cell hg ht (cellsP_get l j hj).1, row_cell hg ht (cellsP_get l j hj).2, by simp [World.frozen?, hg], by simp [World.frozen?, hg], rfl, lt_of_heap hg⟩

theorem OwnP.addr {w : World} {base : Nat} {e : TypeId} {v : Value} {l : List (Int × Int)} (h : OwnP w base e v l) (hl : 0 < l.length) : ∃ b cap, v = .slice (some ⟨b, 0, none⟩) l.length cap ∧ base ≤ b ∧ b < w.heap.size ∧ l.length ≤ cap := by
 obtain ⟨h1, ⟨_, h2⟩ | ⟨g, cap', cur, hv, hb, hg, hn, hm, hs, ht⟩⟩ := h
 ·omega
 ·exact ⟨g, cap', hv, hb, lt_of_heap hg, hn⟩

def ElemP (P : Program) (e : TypeId) : Prop := ∃ i z, P.info? e = some i ∧ i.zero = some z ∧ z.cells.size = 2 ∧ i.size = 2 ∧ i.bytes = 16
theorem elemP_mk {P : Program} {e : TypeId} (h : (P.info? e).map (fun i => (i.zero, i.size, i.bytes)) = some (some (.agg #[.int .i64 0, .int .i64 0]), 2, 16)) : ElemP P e := by
 cases hi : P.info? e with
 | none => simp [hi] at h
 | some i =>
  simp [hi] at h
  exact ⟨i, _, hi, h.1, rfl, h.2.1, h.2.2⟩

theorem app_pair {P : Program} {w : World} {ops : Array Oper} {rest : List Oper} {o : Oper} {a : Act} {Q : Exit → Act → World → Prop} (hgd : o.guard = none) (s x : Operand) (t : TypeId)
 (ho : o.op = .call { callee := .builtin .append, args := #[s, x], argTypes := #[t, t] })
 (e : TypeId) (ht : P.underlying t = some (.slice e)) (he : ElemP P e) (base : Nat) (l : List (Int × Int)) (y : Int × Int) (v : Value) (hs : a.eval s = v) (b0 : Nat) (hx : a.eval x = .slice (some ⟨b0, 0, none⟩) 1 1)
 (hown : OwnP w base e v l) (hc : w.cell? ⟨b0, 0, none⟩ = some (.int .i64 y.1)) (hd : w.cell? ⟨b0, 1, none⟩ = some (.int .i64 y.2)) (hl : l.length ≤ 1099511627776) (hbase : base ≤ w.heap.size)
 (h : ∀ b cap w', OwnP w' base e (.slice (some ⟨b, 0, none⟩) (l ++ [y]).length cap) (l ++ [y]) → (∀ w0, Ext w0 w → w0.heap.size ≤ base → Ext w0 w') → base ≤ b →
  wpList P ops Q rest (a.put o.dst (.slice (some ⟨b, 0, none⟩) (l ++ [y]).length cap)) w') : wpList P ops Q (o :: rest) a w := by
 obtain ⟨i, z, hi, hz, hzs, hsz, hby⟩ := he
 refine wpList_append_own w hgd s x t ho base e i z 2 16 ht hi hz hsz hby hzs (by decide) v l.length _ hs hown _ 1 1 [.int .i64 y.1, .int .i64 y.2] hx rfl ?_ ?_ ?_ ?_ hbase ?_
 ·intro j u hj
  match j, hj with
  | 0, hj => simp at hj; subst hj; simpa [Addr.add] using hc
  | 1, hj => simp at hj; subst hj; simpa [Addr.add] using hd
 ·intro u hu
  simp at hu; rcases hu with rfl | rfl <;> rfl
 ·unfold maxLen; omega
 ·omega
 ·intro v' w' hown' hg hn
  have hv : ¬ v' = .slice none 0 0 := fun e => by have := (hn.1 e).2; simp at this
  rcases hown'.2 with ⟨e1, _⟩ | ⟨g, cap, cur, rfl, hb, r⟩
  ·exact absurd e1 hv
  ·have e : l.length + 1 = (l ++ [y]).length := by simp
   have e2 : cellsP l ++ [Value.int .i64 y.1, .int .i64 y.2] = cellsP (l ++ [y]) := by rw [cellsP_append]; rfl
   rw [e, e2] at hown'
   rw [e]
   exact h g cap w' hown' (fun w0 k0 hw0 => Ext.grown k0 hg fun k hk => by have := (OwnP.block hown k hk).1; omega) hb

theorem appFull_wp {P : Program} {w : World} {o : Oper} {a : Act} {K : Act → World → Prop} {Q : Exit → Act → World → Prop} (s x : Operand) (t : TypeId)
 (ho : o.op = .call { callee := .builtin .append, args := #[s, x], argTypes := #[t, t] })
 (e : TypeId) (i : TypeInfo) (z : Value) (size bytes : Nat) (ht : P.underlying t = some (.slice e)) (hi : P.info? e = some i) (hz : i.zero = some z)
 (hsize : i.size = size) (hby : i.bytes = bytes) (hzs : z.cells.size = size) (ad0 : Option Addr) (n : Nat) (hs : a.eval s = .slice ad0 n n) (h0 : n = 0 ∨ ∃ b, ad0 = some b)
 (olds : List Value) (hlo : olds.length = n * size) (holds : ∀ j v, olds[j]? = some v → ∃ b, ad0 = some b ∧ w.cell? (b.add j) = some v)
 (ad : Addr) (m c : Nat) (news : List Value) (hx : a.eval x = .slice (some ad) m c) (hl : news.length = m * size) (hnews : ∀ j u, news[j]? = some u → w.cell? (ad.add j) = some u)
 (hm : 0 < m) (h63 : n + m ≤ maxLen) (hbytes : (n + m) * bytes ≤ 140737488355328)
 (h : ∀ cap w', w'.ownsRow w.heap.size e size (.slice (some ⟨w.heap.size, 0, none⟩) (n + m) cap) (n + m) (olds ++ news) → Ext w w' →
  K (a.put o.dst (.slice (some ⟨w.heap.size, 0, none⟩) (n + m) cap)) w') : o.wp P a w K Q := by
 subst hsize
 subst hby
 have hsmall : n + m ≤ 9223372036854775807 := by simp only [maxLen] at h63; omega
 have hge := grownCap_ge w (n + m) n e
 have hcm : grownCap w (n + m) n e ≤ maxLen := grownCap_le_maxLen w (n + m) n e h63
 have hr : (Builtin.append_ #[t, t] o.type #[.slice ad0 n n, .slice (some ad) m c]).run P w =
  .ok (.slice (some ⟨w.heap.size, 0, none⟩) (n + m) (grownCap w (n + m) n e)) (w.drew.alloc (.cells (olds.toArray ++ news.toArray ++ Builtin.zeroCells z.cells (grownCap w (n + m) n e - (n + m))) e)) := by
  cases ad0 with
  | none =>
   obtain rfl : n = 0 := by rcases h0 with h0 | ⟨b, hb⟩; exact h0; cases hb
   obtain rfl : olds = [] := List.eq_nil_of_length_eq_zero (by simpa using hlo)
   have := run_append_nil (P := P) w t o.type e i z ht hi hz ad m c news hl hnews hm (by omega) (by rw [Nat.zero_add] at hbytes; omega)
   simpa using this
  | some b =>
   exact run_append_grow (P := P) w t o.type e i z ht hi hz b n n olds hlo (fun j v hv => by obtain ⟨b', hb, hc⟩ := holds j v hv; cases hb; exact hc) ad m c news hl hnews (by omega) (by omega) (growslice_fits (by omega) hbytes)
 unfold Oper.wp execOp
 simp only [ho, resolve, invoke, builtin, Sem.run_bind, Sem.run_pure, Result.andThen_ok, List.map_toArray, List.map_cons, List.map_nil, hs, hx, hr]
 refine h _ _ ⟨by rw [List.length_append, hlo, hl, Nat.add_mul], .inr ⟨w.heap.size, _, _, rfl, Nat.le_refl _, heap_alloc_new w.drew _, hge, hcm, ?_, ?_⟩⟩ ((Ext.refl w).drew.alloc _)
 ·simp only [Array.size_append, List.size_toArray, size_zeroCells, hzs, hlo, hl, ← Nat.add_mul]
  congr 1
  omega
 ·simp only [Array.toList_append, List.append_assoc]
  rw [← List.append_assoc, Nat.add_mul, ← hlo, ← hl, ← List.length_append]
  exact List.take_left


theorem cellsP_set (l : List (Int × Int)) : ∀ j y, j < l.length → cellsP (l.set j (pa l j, y)) = (cellsP l).set (j * 2 + 1) (.int .i64 y) := by
 induction l with
 | nil => intro j y hj; simp at hj
 | cons p l ih =>
  intro j y hj
  cases j with
  | zero => simp [cellsP, pa]
  | succ j =>
   have := ih j y (by simpa using hj)
   rw [show (j + 1) * 2 + 1 = j * 2 + 1 + 1 + 1 by omega]
   simpa [cellsP, pa] using this
theorem OwnP.set2 {w : World} {base : Nat} {e : TypeId} {b n cap : Nat} {l : List (Int × Int)} (h : OwnP w base e (.slice (some ⟨b, 0, none⟩) n cap) l) {j : Nat} (hj : j < l.length) (y : Int) :
 OwnP (w.setCell ⟨b, j * 2 + 1, none⟩ (.int .i64 y)) base e (.slice (some ⟨b, 0, none⟩) n cap) (l.set j (pa l j, y)) := by
 obtain ⟨h1, h2 | ⟨g, cap', cur, hv, hb, hg, hn, hm, hs, ht⟩⟩ := h
 ·simp at h2
 ·cases hv
  refine ⟨by rw [cellsP_len], .inr ⟨b, cap, cur.setIfInBounds (j * 2 + 1) (.int .i64 y), by simp, hb, ?_, by simpa using hn, hm, by simpa using hs, ?_⟩⟩
  ·simp only [World.setCell]
   rw [Array.getElem?_modify]
   simp [hg]
  ·rw [List.length_set, Array.toList_setIfInBounds, cellsP_set l j y hj, ← ht, List.take_set]
theorem OwnP.setExt {w : World} {base : Nat} {e : TypeId} {b n cap : Nat} {l : List (Int × Int)} (h : OwnP w base e (.slice (some ⟨b, 0, none⟩) n cap) l) {w0 : World} (k : Ext w0 w) (hb : w0.heap.size ≤ base) (j : Nat) (v : Value) :
 Ext w0 (w.setCell ⟨b, j, none⟩ v) := k.setCell (by have := (OwnP.block h b rfl).1; simp; omega) v


theorem new20 {w : World} {x y : Value} {t : TypeId} {n : Nat} (h : n = w.heap.size) : (w.alloc (.cells #[x, y] t)).cell? ⟨n, 0, none⟩ = some x := by subst h; simp [go_sem]
theorem new21 {w : World} {x y : Value} {t : TypeId} {n : Nat} (h : n = w.heap.size) : (w.alloc (.cells #[x, y] t)).cell? ⟨n, 1, none⟩ = some y := by subst h; simp [go_sem]


theorem OwnP.mono {w : World} {base base' : Nat} {e : TypeId} {v : Value} {l : List (Int × Int)} (h : OwnP w base e v l) (hb : base' ≤ base) : OwnP w base' e v l := by
 obtain ⟨h1, h2 | ⟨g, cap', cur, hv, hg, r⟩⟩ := h
 ·exact ⟨h1, .inl h2⟩
 ·exact ⟨h1, .inr ⟨g, cap', cur, hv, by omega, r⟩⟩

theorem app_pair_full {P : Program} {w : World} {ops : Array Oper} {rest : List Oper} {o : Oper} {a : Act} {Q : Exit → Act → World → Prop} (hgd : o.guard = none) (s x : Operand) (t : TypeId)
 (ho : o.op = .call { callee := .builtin .append, args := #[s, x], argTypes := #[t, t] })
 (e : TypeId) (ht : P.underlying t = some (.slice e)) (he : ElemP P e) (l : List (Int × Int)) (y : Int × Int) (ad : Option Addr) (hs : a.eval s = .slice ad l.length l.length) (b0 : Nat) (hx : a.eval x = .slice (some ⟨b0, 0, none⟩) 1 1)
 (hP : Prs w ad l) (hc : w.cell? ⟨b0, 0, none⟩ = some (.int .i64 y.1)) (hd : w.cell? ⟨b0, 1, none⟩ = some (.int .i64 y.2)) (hl : l.length ≤ 1099511627776)
 (h : ∀ cap w', OwnP w' w.heap.size e (.slice (some ⟨w.heap.size, 0, none⟩) (l ++ [y]).length cap) (l ++ [y]) → Ext w w' →
  wpList P ops Q rest (a.put o.dst (.slice (some ⟨w.heap.size, 0, none⟩) (l ++ [y]).length cap)) w') : wpList P ops Q (o :: rest) a w := by
 obtain ⟨i, z, hi, hz, hzs, hsz, hby⟩ := he
 refine wpList_plain hgd fun K hK => appFull_wp s x t ho e i z 2 16 ht hi hz hsz hby hzs ad l.length hs ?_ (cellsP l) (cellsP_len l) ?_ _ 1 1 [.int .i64 y.1, .int .i64 y.2] hx rfl ?_ (by omega) (by unfold maxLen; omega) (by omega) fun cap w' ho' hE => ?_
 ·rcases Nat.eq_zero_or_pos l.length with h0 | h0
  ·exact .inl h0
  ·obtain ⟨b, off, hb, _⟩ := hP 0 h0
   exact .inr ⟨_, hb⟩
 ·intro j v hj
  have hj2 : j < l.length * 2 := by rw [← cellsP_len]; exact (List.getElem?_eq_some_iff.1 hj).1
  obtain ⟨b, off, hb, h1, h2⟩ := hP (j / 2) (by omega)
  refine ⟨_, hb, ?_⟩
  obtain ⟨g1, g2⟩ := cellsP_get l (j / 2) (by omega)
  have hadd : ∀ k, (⟨b, off, none⟩ : Addr).add k = ⟨b, off + k, none⟩ := by intro k; unfold Addr.add; split <;> simp_all
  rw [hadd]
  rcases Nat.mod_two_eq_zero_or_one j with hm | hm
  ·rw [show j = j / 2 * 2 by omega] at hj ⊢
   rw [g1] at hj; cases hj
   exact h1
  ·rw [show j = j / 2 * 2 + 1 by omega] at hj ⊢
   rw [g2] at hj; cases hj
   rw [← Nat.add_assoc]; exact h2
 ·intro j u hj
  match j, hj with
  | 0, hj => simp at hj; subst hj; simpa [Addr.add] using hc
  | 1, hj => simp at hj; subst hj; simpa [Addr.add] using hd
 ·have e1 : l.length + 1 = (l ++ [y]).length := by simp
  have e2 : cellsP l ++ [Value.int .i64 y.1, .int .i64 y.2] = cellsP (l ++ [y]) := by rw [cellsP_append]; rfl
  rw [e1, e2] at ho'
  have := hK _ _ (h cap w' ho' hE)
  rwa [← e1] at this

end Go.Proofs.Ytommhgcgaclflaa
namespace Go.Proofs.Ytommhgcgaclflaa.Game

def sm : Nat → (Nat → Int) → Int
 | 0, _ => 0
 | n + 1, f => sm n f + f n
theorem sm_congr {n : Nat} {f g : Nat → Int} (h : ∀ i, i < n → f i = g i) : sm n f = sm n g := by
 induction n with
 | zero => rfl
 | succ k ih => simp only [sm]; rw [ih fun i hi => h i (by omega), h k (by omega)]
theorem sm_add (n : Nat) (f g : Nat → Int) : sm n (fun i => f i + g i) = sm n f + sm n g := by
 induction n with
 | zero => rfl
 | succ k ih => simp only [sm]; rw [ih]; omega
theorem sm_mul (n : Nat) (c : Int) (f : Nat → Int) : sm n (fun i => c * f i) = c * sm n f := by
 induction n with
 | zero => simp [sm]
 | succ k ih => simp only [sm]; rw [ih]; grind
theorem sm_le {n : Nat} {f g : Nat → Int} (h : ∀ i, i < n → f i ≤ g i) : sm n f ≤ sm n g := by
 induction n with
 | zero => simp [sm]
 | succ k ih => simp only [sm]; have := ih fun i hi => h i (by omega); have := h k (by omega); omega
theorem sm_zero {n : Nat} {f : Nat → Int} (h : ∀ i, i < n → f i = 0) : sm n f = 0 := by
 induction n with
 | zero => rfl
 | succ k ih => simp only [sm]; rw [ih fun i hi => h i (by omega), h k (by omega)]; rfl
theorem sm_nonneg {n : Nat} {f : Nat → Int} (h : ∀ i, i < n → 0 ≤ f i) : 0 ≤ sm n f := by
 have := sm_le (f := fun _ => 0) (g := f) h
 rwa [sm_zero (fun _ _ => rfl)] at this
theorem sm_one {n : Nat} {f : Nat → Int} (h : ∀ i, i < n → 0 ≤ f i) {i : Nat} (hi : i < n) : f i ≤ sm n f := by
 induction n with
 | zero => omega
 | succ k ih =>
  simp only [sm]
  have h0 := sm_nonneg (n := k) (f := f) fun i hi => h i (by omega)
  rcases Nat.lt_or_ge i k with g | g
  ·have := ih (fun i hi => h i (by omega)) g; have := h k (by omega); omega
  ·obtain rfl : i = k := by omega
   omega
theorem sm_pos {n : Nat} {f : Nat → Int} (h : ∀ i, i < n → 0 ≤ f i) {i : Nat} (hi : i < n) (hp : 0 < f i) : 0 < sm n f := by
 have := sm_one h hi; omega
theorem sm_pos_ex {n : Nat} {f : Nat → Int} (h : 0 < sm n f) : ∃ i, i < n ∧ 0 < f i := by
 induction n with
 | zero => simp [sm] at h
 | succ k ih =>
  simp only [sm] at h
  by_cases g : 0 < f k
  ·exact ⟨k, by omega, g⟩
  ·obtain ⟨i, hi, hp⟩ := ih (by omega)
   exact ⟨i, by omega, hp⟩
theorem sm_neg_ex {n : Nat} {f : Nat → Int} (h : sm n f < 0) : ∃ i, i < n ∧ f i < 0 := by
 induction n with
 | zero => simp [sm] at h
 | succ k ih =>
  simp only [sm] at h
  by_cases g : f k < 0
  ·exact ⟨k, by omega, g⟩
  ·obtain ⟨i, hi, hp⟩ := ih (by omega)
   exact ⟨i, by omega, hp⟩
theorem sm_swap (m n : Nat) (f : Nat → Nat → Int) : sm m (fun i => sm n (fun j => f i j)) = sm n (fun j => sm m (fun i => f i j)) := by
 induction m with
 | zero => simp only [sm]; exact (sm_zero fun _ _ => rfl).symm
 | succ k ih => simp only [sm]; rw [ih, ← sm_add]
theorem sm_mixed {n : Nat} {f : Nat → Int} (h : sm n f = 0) (hne : ∃ i, i < n ∧ f i ≠ 0) : ∃ i, i < n ∧ f i < 0 := by
 refine Classical.byContradiction fun hn => ?_
 have hnn : ∀ i, i < n → 0 ≤ f i := fun i hi => by
  refine Int.not_lt.1 fun hl => hn ⟨i, hi, hl⟩
 obtain ⟨i, hi, h0⟩ := hne
 have := sm_pos hnn hi (by have := hnn i hi; omega)
 omega

def cn : Nat → (Nat → Bool) → Nat
 | 0, _ => 0
 | n + 1, f => cn n f + (if f n then 1 else 0)
theorem cn_le {n : Nat} {f g : Nat → Bool} (h : ∀ i, i < n → f i = true → g i = true) : cn n f ≤ cn n g := by
 induction n with
 | zero => simp [cn]
 | succ k ih =>
  simp only [cn]
  have := ih fun i hi => h i (by omega)
  have := h k (by omega)
  cases hf : f k <;> cases hg : g k <;> simp_all <;> omega
theorem cn_lt {n : Nat} {f g : Nat → Bool} (h : ∀ i, i < n → f i = true → g i = true) {i : Nat} (hi : i < n) (hf : f i = false) (hg : g i = true) : cn n f < cn n g := by
 induction n with
 | zero => omega
 | succ k ih =>
  simp only [cn]
  rcases Nat.lt_or_ge i k with hk | hk
  ·have := ih (fun i hi => h i (by omega)) hk
   have := h k (by omega)
   cases hf : f k <;> cases hg : g k <;> simp_all <;> omega
  ·obtain rfl : i = k := by omega
   have := cn_le (n := i) (f := f) (g := g) fun i hi => h i (by omega)
   rw [hf, hg]; simp; omega

theorem ratio_trans {a b c d e f : Int} (hd : 0 < d) (hb : 0 < b) (hf : 0 < f) (h1 : a * d ≤ c * b) (h2 : c * f ≤ e * d) : a * f ≤ e * b := by
 have h3 : a * d * f ≤ c * b * f := Int.mul_le_mul_of_nonneg_right h1 (by omega)
 have h4 : c * f * b ≤ e * d * b := Int.mul_le_mul_of_nonneg_right h2 (by omega)
 have e1 : a * d * f = (a * f) * d := by grind
 have e2 : c * b * f = c * f * b := by grind
 have e3 : e * d * b = (e * b) * d := by grind
 rw [e1, e2] at h3
 rw [e3] at h4
 exact Int.le_of_mul_le_mul_right (Int.le_trans h3 h4) hd
theorem min_ratio (B : Nat → Prop) (p q : Nat → Int) : ∀ N, (∀ i, i < N → B i → 0 < q i) → (∃ i, i < N ∧ B i) → ∃ i, i < N ∧ B i ∧ ∀ j, j < N → B j → p i * q j ≤ p j * q i
 | 0, _, h => by obtain ⟨i, hi, _⟩ := h; omega
 | N + 1, hq, h => by
  by_cases hN : ∃ i, i < N ∧ B i
  ·obtain ⟨i, hi, hB, hm⟩ := min_ratio B p q N (fun i hi => hq i (by omega)) hN
   by_cases hb : B N ∧ ¬ (p i * q N ≤ p N * q i)
   ·refine ⟨N, by omega, hb.1, fun j hj hBj => ?_⟩
    rcases Nat.lt_or_ge j N with g | g
    ·exact ratio_trans (hq i (by omega) hB) (hq N (by omega) hb.1) (hq j (by omega) hBj) (by omega) (hm j g hBj)
    ·obtain rfl : j = N := by omega
     exact Int.le_refl _
   ·refine ⟨i, by omega, hB, fun j hj hBj => ?_⟩
    rcases Nat.lt_or_ge j N with g | g
    ·exact hm j g hBj
    ·obtain rfl : j = N := by omega
     exact Classical.byContradiction fun hc => hb ⟨hBj, hc⟩
  ·obtain ⟨i, hi, hB⟩ := h
   obtain rfl : i = N := by
    rcases Nat.lt_or_ge i N with g | g
    ·exact absurd ⟨i, g, hB⟩ hN
    ·omega
   refine ⟨i, by omega, hB, fun j hj hBj => ?_⟩
   rcases Nat.lt_or_ge j i with g | g
   ·exact absurd ⟨j, g, hBj⟩ hN
   ·obtain rfl : j = i := by omega
    exact Int.le_refl _

def ag (A : Nat → Nat → Int) (m : Nat) (x : Nat → Int) (j : Nat) : Int := sm m fun i => x i * A i j
theorem ag_lin (A : Nat → Nat → Int) (m : Nat) (x z : Nat → Int) (P Q : Int) (j : Nat) : ag A m (fun i => Q * x i + P * z i) j = Q * ag A m x j + P * ag A m z j := by
 unfold ag
 rw [← sm_mul, ← sm_mul, ← sm_add]
 exact sm_congr fun i _ => by grind
theorem sm_lin (m : Nat) (x z : Nat → Int) (P Q : Int) : sm m (fun i => Q * x i + P * z i) = Q * sm m x + P * sm m z := by
 rw [← sm_mul, ← sm_mul, ← sm_add]
structure Pl (m : Nat) (x : Nat → Int) : Prop where
 nn : ∀ i, i < m → 0 ≤ x i
 ps : 0 < sm m x
structure Su (A : Nat → Nat → Int) (m n : Nat) (x : Nat → Int) (N : Int) : Prop where
 le : ∀ j, j < n → N ≤ ag A m x j
 at_ : ∃ j, j < n ∧ ag A m x j = N

theorem su_ex (A : Nat → Nat → Int) (m : Nat) (x : Nat → Int) : ∀ n, 0 < n → ∃ N, Su A m n x N
 | n + 1, _ => by
  rcases Nat.eq_zero_or_pos n with rfl | h
  ·exact ⟨ag A m x 0, fun j hj => by obtain rfl : j = 0 := by omega
                                     exact Int.le_refl _, 0, by omega, rfl⟩
  ·obtain ⟨N, h1, j, hj, h2⟩ := su_ex A m x n h
   by_cases g : N ≤ ag A m x n
   ·refine ⟨N, fun i hi => ?_, j, by omega, h2⟩
    rcases Nat.lt_or_ge i n with k | k
    ·exact h1 i k
    ·obtain rfl : i = n := by omega
     exact g
   ·refine ⟨ag A m x n, fun i hi => ?_, n, by omega, rfl⟩
    rcases Nat.lt_or_ge i n with k | k
    ·have := h1 i k; omega
    ·obtain rfl : i = n := by omega
     exact Int.le_refl _
theorem Su.uniq {A : Nat → Nat → Int} {m n : Nat} {x : Nat → Int} {N M : Int} (h : Su A m n x N) (k : Su A m n x M) : N = M := by
 obtain ⟨i, hi, e⟩ := h.at_
 obtain ⟨j, hj, f⟩ := k.at_
 have := h.le j hj
 have := k.le i hi
 omega

theorem move {A : Nat → Nat → Int} {m n : Nat} {x z : Nat → Int} {N c : Int} (hx : Pl m x) (hz : sm m z = 0) (hne : ∃ i, i < m ∧ z i ≠ 0) (hs : ∀ i, i < m → x i = 0 → z i = 0)
 (hN : Su A m n x N) (hT : ∀ j, j < n → ag A m x j = N → ag A m z j = c) :
 ∃ P Q : Int, 0 < P ∧ 0 < Q ∧ Pl m (fun i => Q * x i + P * z i) ∧ sm m (fun i => Q * x i + P * z i) = Q * sm m x ∧ Su A m n (fun i => Q * x i + P * z i) (Q * N + P * c) ∧
  (∀ j, j < n → ag A m x j = N → ag A m (fun i => Q * x i + P * z i) j = Q * N + P * c) ∧
  ((∃ i, i < m ∧ x i ≠ 0 ∧ Q * x i + P * z i = 0) ∨ (∃ j, j < n ∧ ag A m x j ≠ N ∧ ag A m (fun i => Q * x i + P * z i) j = Q * N + P * c)) := by
 obtain ⟨i0, hi0, hn0⟩ := sm_mixed hz hne
 let p : Nat → Int := fun k => if k < m then x k else ag A m x (k - m) - N
 let q : Nat → Int := fun k => if k < m then - z k else c - ag A m z (k - m)
 have hB : ∀ i, i < m + n → 0 < q i → 0 < p i := by
  intro i hi hq
  by_cases g : i < m
  ·simp only [p, q, if_pos g] at hq ⊢
   have := hx.nn i g
   have := hs i g
   omega
  ·simp only [p, q, if_neg g] at hq ⊢
   have := hN.le (i - m) (by omega)
   have := hT (i - m) (by omega)
   omega
 obtain ⟨k, hk, hqk, hm⟩ := min_ratio (fun k => 0 < q k) p q (m + n) (fun _ _ h => h) ⟨i0, by omega, by simp only [q, if_pos hi0]; omega⟩
 have hP := hB k hk hqk
 have hnn : ∀ i, i < m → 0 ≤ q k * x i + p k * z i := by
  intro i hi
  by_cases g : z i < 0
  ·have := hm i (by omega) (by simp only [q, if_pos hi]; omega)
   have e1 : q i = - z i := if_pos hi
   have e2 : p i = x i := if_pos hi
   rw [e1, e2] at this
   grind
  ·have h1 := Int.mul_nonneg (Int.le_of_lt hqk) (hx.nn i hi)
   have h2 := Int.mul_nonneg (Int.le_of_lt hP) (Int.not_lt.1 g)
   omega
 have hsm : sm m (fun i => q k * x i + p k * z i) = q k * sm m x := by rw [sm_lin, hz]; omega
 have hge : ∀ j, j < n → q k * N + p k * c ≤ ag A m (fun i => q k * x i + p k * z i) j := by
  intro j hj
  rw [ag_lin]
  by_cases g : ag A m z j < c
  ·have e0 : ¬ m + j < m := by omega
   have e1 : q (m + j) = c - ag A m z j := by simp only [q, if_neg e0, Nat.add_sub_cancel_left]
   have e2 : p (m + j) = ag A m x j - N := by simp only [p, if_neg e0, Nat.add_sub_cancel_left]
   have := hm (m + j) (by omega) (by rw [e1]; omega)
   rw [e1, e2] at this
   grind
  ·have h1 := Int.mul_le_mul_of_nonneg_left (hN.le j hj) (Int.le_of_lt hqk)
   have h2 := Int.mul_le_mul_of_nonneg_left (Int.not_lt.1 g) (Int.le_of_lt hP)
   omega
 have heq : ∀ j, j < n → ag A m x j = N → ag A m (fun i => q k * x i + p k * z i) j = q k * N + p k * c := by
  intro j hj e
  rw [ag_lin, e, hT j hj e]
 refine ⟨p k, q k, hP, hqk, ⟨hnn, ?_⟩, hsm, ⟨hge, ?_⟩, heq, ?_⟩
 ·rw [hsm]; exact Int.mul_pos hqk hx.ps
 ·obtain ⟨j, hj, e⟩ := hN.at_
  exact ⟨j, hj, heq j hj e⟩
 ·by_cases g : k < m
  ·have e1 : q k = - z k := if_pos g
   have e2 : p k = x k := if_pos g
   refine .inl ⟨k, g, by omega, ?_⟩
   rw [e1, e2]; grind
  ·have e1 : q k = c - ag A m z (k - m) := if_neg g
   have e2 : p k = ag A m x (k - m) - N := if_neg g
   refine .inr ⟨k - m, by omega, by omega, ?_⟩
   rw [ag_lin, e1, e2]; grind


def ab (p : Int) : Int := if 0 ≤ p then p else -p
theorem ab_nonneg (p : Int) : 0 ≤ ab p := by unfold ab; split <;> omega
theorem ab_pos {p : Int} (h : p ≠ 0) : 0 < ab p := by unfold ab; split <;> omega
theorem ab_par {x y p q : Int} (hx : 0 < x) (hy : 0 < y) (h : x * p = y * q) : x * ab p = y * ab q := by
 unfold ab
 by_cases hp : 0 ≤ p
 ·have h1 : 0 ≤ x * p := Int.mul_nonneg (by omega) hp
  have hq : 0 ≤ q := by
   refine Int.not_lt.1 fun hq => ?_
   have := Int.mul_neg_of_pos_of_neg hy hq
   omega
  rw [if_pos hp, if_pos hq]; exact h
 ·have h1 : x * p < 0 := Int.mul_neg_of_pos_of_neg hx (by omega)
  have hq : ¬ 0 ≤ q := fun hq => by
   have := Int.mul_nonneg (Int.le_of_lt hy) hq
   omega
  rw [if_neg hp, if_neg hq, Int.mul_neg, Int.mul_neg, h]

def put : List Nat → List Int → Nat → Int
 | a :: s, p :: q, r => if r = a then p else put s q r
 | _, _, _ => 0
theorem put_zero : ∀ (s : List Nat) (p : List Int) (r : Nat), r ∉ s → put s p r = 0
 | [], _, _, _ => by simp [put]
 | _ :: _, [], _, _ => by simp [put]
 | a :: s, p :: q, r, h => by
  simp at h
  simp only [put, if_neg h.1]
  exact put_zero s q r h.2

theorem sm_split {m a : Nat} (f : Nat → Int) (h : a < m) : sm m f = f a + sm m fun i => if i = a then 0 else f i := by
 induction m with
 | zero => omega
 | succ k ih =>
  simp only [sm]
  rcases Nat.lt_or_ge a k with g | g
  ·rw [ih g, if_neg (by omega)]; omega
  ·obtain rfl : a = k := by omega
   rw [if_pos rfl, sm_congr (f := fun i => if i = a then 0 else f i) (g := f) (fun i hi => if_neg (by omega))]; omega
def ls (f : Nat → Int) : List Nat → Int
 | [] => 0
 | a :: s => f a + ls f s
theorem ls_congr {f g : Nat → Int} : ∀ s : List Nat, (∀ i ∈ s, f i = g i) → ls f s = ls g s
 | [], _ => rfl
 | a :: s, h => by simp only [ls]; rw [h a (by simp), ls_congr s fun i hi => h i (by simp [hi])]
theorem sm_list {m : Nat} : ∀ (s : List Nat) (f : Nat → Int), s.Nodup → (∀ a ∈ s, a < m) → (∀ i, i < m → i ∉ s → f i = 0) → sm m f = ls f s
 | [], f, _, _, h => sm_zero fun i hi => h i hi (by simp)
 | a :: s, f, hn, hl, h => by
  rw [List.nodup_cons] at hn
  rw [sm_split f (hl a (by simp)), sm_list s _ hn.2 (fun b hb => hl b (by simp [hb]))]
  ·simp only [ls]
   rw [ls_congr s fun i hi => if_neg (show ¬ i = a from fun e => hn.1 (e ▸ hi))]
  ·intro i hi his
   by_cases g : i = a
   ·rw [if_pos g]
   ·rw [if_neg g]; exact h i hi (by simp [g, his])

def df (A : Nat → Nat → Int) (u i v : Nat) : Int := A i v - A i u
def d2 (A : Nat → Nat → Int) (u v w a b : Nat) : Int := df A u a v * df A u b w - df A u a w * df A u b v
def d3 (A : Nat → Nat → Int) (u v w t a b c : Nat) : Int :=
 df A u a v * (df A u b w * df A u c t - df A u b t * df A u c w) - df A u a w * (df A u b v * df A u c t - df A u b t * df A u c v) + df A u a t * (df A u b v * df A u c w - df A u b w * df A u c v)
def pc (A : Nat → Nat → Int) : List Nat → List Nat → List Int
 | [_], [_] => [1]
 | [a, b], [u, v] => [df A u b v, - df A u a v]
 | [a, b, c], [u, v, w] => [d2 A u v w b c, - d2 A u v w a c, d2 A u v w a b]
 | [a, b, c, d], [u, v, w, t] => [d3 A u v w t b c d, - d3 A u v w t a c d, d3 A u v w t a b d, - d3 A u v w t a b c]
 | _, _ => []
def Gd (p : List Int) : Prop := (∃ a ∈ p, a ≠ 0) ∧ ¬ ((∃ a ∈ p, a < 0) ∧ ∃ a ∈ p, 0 < a)
structure Ch (m n : Nat) (s c : List Nat) : Prop where
 ss : s.Pairwise (· < ·)
 cc : c.Pairwise (· < ·)
 sl : ∀ i ∈ s, i < m
 cl : ∀ i ∈ c, i < n
 eq : s.length = c.length
 pos : 0 < s.length
def ev (A : Nat → Nat → Int) (s c : List Nat) (r : Nat) : Int := put s ((pc A s c).map ab) r

theorem least_ex (p : Nat → Prop) : ∀ n, (∃ i, i < n ∧ p i) → ∃ i, i < n ∧ p i ∧ ∀ j, j < i → ¬ p j
 | 0, h => by obtain ⟨i, hi, _⟩ := h; omega
 | n + 1, h => by
  by_cases g : ∃ i, i < n ∧ p i
  ·obtain ⟨i, hi, h1, h2⟩ := least_ex p n g
   exact ⟨i, by omega, h1, h2⟩
  ·obtain ⟨i, hi, h1⟩ := h
   exact ⟨i, hi, h1, fun j hj hp => g ⟨j, by omega, hp⟩⟩

theorem dep2 (Q : Nat → Prop) (a b : Nat → Int) (h : ∀ i j, Q i → Q j → a i * b j = a j * b i) : ∃ x y : Int, (x ≠ 0 ∨ y ≠ 0) ∧ ∀ j, Q j → x * a j + y * b j = 0 := by
 by_cases g : ∃ j, Q j ∧ a j ≠ 0
 ·obtain ⟨j, hj, hn⟩ := g
  exact ⟨b j, - a j, .inr (by omega), fun i hi => by have := h i j hi hj; grind⟩
 ·refine ⟨1, 0, .inl (by decide), fun i hi => ?_⟩
  have : a i = 0 := Classical.byContradiction fun hn => g ⟨i, hi, hn⟩
  rw [this]; simp
theorem dep3 (Q : Nat → Prop) (a b c : Nat → Int) (h : ∀ i j k, Q i → Q j → Q k → a i * (b j * c k - b k * c j) - a j * (b i * c k - b k * c i) + a k * (b i * c j - b j * c i) = 0) :
 ∃ x y z : Int, (x ≠ 0 ∨ y ≠ 0 ∨ z ≠ 0) ∧ ∀ j, Q j → x * a j + y * b j + z * c j = 0 := by
 by_cases g : ∃ i j, Q i ∧ Q j ∧ a i * b j ≠ a j * b i
 ·obtain ⟨i, j, hi, hj, hn⟩ := g
  exact ⟨b i * c j - b j * c i, - (a i * c j - a j * c i), a i * b j - a j * b i, .inr (.inr (by omega)), fun k hk => by have := h i j k hi hj hk; grind⟩
 ·obtain ⟨x, y, h1, h2⟩ := dep2 Q a b fun i j hi hj => Classical.byContradiction fun hn => g ⟨i, j, hi, hj, hn⟩
  refine ⟨x, y, 0, ?_, fun j hj => by have := h2 j hj; omega⟩
  rcases h1 with h | h
  ·exact .inl h
  ·exact .inr (.inl h)

theorem aim {A : Nat → Nat → Int} {m n : Nat} {x y : Nat → Int} {N c : Int} (hx : Pl m x) {a : Nat} (ha : a < m) (hxa : x a ≠ 0) (hya : y a = 0) (hy : ∃ i, i < m ∧ y i ≠ 0) (hs : ∀ i, i < m → x i = 0 → y i = 0)
 (hT : ∀ j, j < n → ag A m x j = N → ag A m y j = c) :
 ∃ z, sm m z = 0 ∧ (∃ i, i < m ∧ z i ≠ 0) ∧ (∀ i, i < m → x i = 0 → z i = 0) ∧ ∃ c', ∀ j, j < n → ag A m x j = N → ag A m z j = c' := by
 refine ⟨fun i => (sm m x) * y i + (- sm m y) * x i, ?_, ?_, ?_, sm m x * c + - sm m y * N, ?_⟩
 ·rw [sm_lin]; grind
 ·by_cases g : sm m y = 0
  ·obtain ⟨i, hi, hn⟩ := hy
   refine ⟨i, hi, ?_⟩
   show sm m x * y i + (- sm m y) * x i ≠ 0
   rw [g]
   have := Int.mul_ne_zero (show sm m x ≠ 0 from fun e => by have := hx.ps; omega) hn
   simpa using this
  ·refine ⟨a, ha, ?_⟩
   show sm m x * y a + (- sm m y) * x a ≠ 0
   rw [hya]
   have := Int.mul_ne_zero g hxa
   grind
 ·intro i hi h0
  show sm m x * y i + (- sm m y) * x i = 0
  rw [hs i hi h0, h0]; simp
 ·intro j hj e
  rw [ag_lin, hT j hj e, e]

theorem ag_list {A : Nat → Nat → Int} {m : Nat} {s : List Nat} {x : Nat → Int} (hn : s.Nodup) (hl : ∀ a ∈ s, a < m) (h : ∀ i, i < m → i ∉ s → x i = 0) (j : Nat) : ag A m x j = ls (fun i => x i * A i j) s :=
 sm_list s _ hn hl fun i hi his => by rw [h i hi his]; simp

def Par (m : Nat) (x e : Nat → Int) : Prop := ∀ i k, i < m → k < m → x i * e k = x k * e i
theorem Par.sm {m : Nat} {x e : Nat → Int} (h : Par m x e) {i : Nat} (hi : i < m) : x i * sm m e = e i * sm m x := by
 rw [← sm_mul, ← sm_mul]
 exact sm_congr fun k hk => by rw [h i k hi hk]; exact Int.mul_comm _ _
theorem Par.ag {A : Nat → Nat → Int} {m : Nat} {x e : Nat → Int} (h : Par m x e) (j : Nat) : ag A m x j * Go.Proofs.Ytommhgcgaclflaa.Game.sm m e = ag A m e j * Go.Proofs.Ytommhgcgaclflaa.Game.sm m x := by
 unfold Go.Proofs.Ytommhgcgaclflaa.Game.ag
 rw [Int.mul_comm, Int.mul_comm _ (Go.Proofs.Ytommhgcgaclflaa.Game.sm m x), ← sm_mul, ← sm_mul]
 exact sm_congr fun k hk => by have := h.sm hk; grind
theorem Par.su {A : Nat → Nat → Int} {m n : Nat} {x e : Nat → Int} {N : Int} (h : Par m x e) (hx : Pl m x) (he : Pl m e) (hN : Su A m n x N) : ∃ M, Su A m n e M ∧ N * Go.Proofs.Ytommhgcgaclflaa.Game.sm m e = M * Go.Proofs.Ytommhgcgaclflaa.Game.sm m x := by
 obtain ⟨j, hj, e1⟩ := hN.at_
 have h1 := h.ag (A := A) j
 rw [e1] at h1
 refine ⟨_, ⟨fun i hi => ?_, j, hj, rfl⟩, h1⟩
 have h2 := h.ag (A := A) i
 have h3 := Int.mul_le_mul_of_nonneg_right (hN.le i hi) (Int.le_of_lt he.ps)
 rw [h2, h1] at h3
 exact Int.le_of_mul_le_mul_right h3 hx.ps


theorem filt_mem {m : Nat} {x : Nat → Int} {i : Nat} : i ∈ (List.range m).filter (fun i => x i ≠ 0) ↔ i < m ∧ x i ≠ 0 := by simp
theorem sorted_nodup {s : List Nat} (h : s.Pairwise (· < ·)) : s.Nodup := h.imp fun h e => by omega

theorem par_of {A : Nat → Nat → Int} {m : Nat} {x : Nat → Int} {s c : List Nat} (hx : Pl m x) (hs : ∀ i, i < m → (i ∈ s ↔ x i ≠ 0)) 
 (h : ∀ i k, i < m → k < m → i ∈ s → k ∈ s → x i * put s (pc A s c) k = x k * put s (pc A s c) i) : Par m x (ev A s c) := by
 have hput : ∀ (s : List Nat) (p : List Int) (k : Nat), put s (p.map ab) k = ab (put s p k) := by
  intro s
  induction s with
  | nil => intro p k; simp [put, ab]
  | cons a s ih =>
   intro p k
   cases p with
   | nil => simp [put, ab]
   | cons b p =>
    simp only [List.map_cons, put]
    split
    ·rfl
    ·exact ih p k
 intro i k hi hk
 unfold ev
 rw [hput, hput]
 by_cases gi : i ∈ s
 ·by_cases gk : k ∈ s
  ·have h1 := hx.nn i hi
   have h2 := hx.nn k hk
   have h3 := (hs i hi).1 gi
   have h4 := (hs k hk).1 gk
   exact ab_par (by omega) (by omega) (h i k hi hk gi gk)
  ·have h4 : x k = 0 := Classical.byContradiction fun e => gk ((hs k hk).2 e)
   rw [h4, put_zero s _ k gk]; simp [ab]
 ·have h4 : x i = 0 := Classical.byContradiction fun e => gi ((hs i hi).2 e)
  rw [h4, put_zero s _ i gi]; simp [ab]

theorem gd_of {x : List Int} {p : List Int} (hl : x.length = p.length) (hx : ∀ a ∈ x, 0 < a) (hne : ∃ a ∈ p, a ≠ 0)
 (h : ∀ i k, i < p.length → k < p.length → x.getD i 0 * p.getD k 0 = x.getD k 0 * p.getD i 0) : Gd p := by
 refine ⟨hne, ?_⟩
 rintro ⟨⟨a, ha, na⟩, b, hb, pb⟩
 obtain ⟨i, hi, rfl⟩ := List.getElem_of_mem ha
 obtain ⟨k, hk, rfl⟩ := List.getElem_of_mem hb
 have := h i k hi hk
 simp only [List.getD_eq_getElem?_getD, List.getElem?_eq_getElem hi, List.getElem?_eq_getElem hk, List.getElem?_eq_getElem (show i < x.length by omega), List.getElem?_eq_getElem (show k < x.length by omega), Option.getD_some] at this
 have h1 := hx _ (List.getElem_mem (show i < x.length by omega))
 have h2 := hx _ (List.getElem_mem (show k < x.length by omega))
 have h3 := Int.mul_pos h1 pb
 have h4 := Int.mul_neg_of_pos_of_neg h2 na
 omega

def Hit (A : Nat → Nat → Int) (m n : Nat) (x : Nat → Int) (N : Int) : Prop :=
 ∃ s c, Ch m n s c ∧ (∀ i, i < m → (i ∈ s ↔ x i ≠ 0)) ∧ (∀ j ∈ c, ag A m x j = N) ∧ Gd (pc A s c) ∧ Par m x (ev A s c) ∧ ∃ r, r < m ∧ 0 < ev A s c r
def Way (A : Nat → Nat → Int) (m n : Nat) (x : Nat → Int) (N : Int) : Prop :=
 ∃ z, sm m z = 0 ∧ (∃ i, i < m ∧ z i ≠ 0) ∧ (∀ i, i < m → x i = 0 → z i = 0) ∧ ∃ c, ∀ j, j < n → ag A m x j = N → ag A m z j = c

section
variable {A : Nat → Nat → Int} {m n : Nat} {x : Nat → Int} {N : Int}

theorem step1 (hx : Pl m x) {a : Nat} (ha : a < m) (hs : ∀ i, i < m → (i ∈ [a] ↔ x i ≠ 0)) {j0 : Nat} (hj0 : j0 < n) (e0 : ag A m x j0 = N) : Hit A m n x N := by
 refine ⟨[a], [j0], ⟨by simp, by simp, by simpa using ha, by simpa using hj0, rfl, by simp⟩, hs, by simpa using e0, ?_, ?_, a, ha, ?_⟩
 ·simp [pc, Gd]
 ·refine par_of hx hs fun i k hi hk h1 h2 => ?_
  simp at h1 h2; subst h1; subst h2; rfl
 ·simp [ev, pc, put, ab]

theorem step2 (hx : Pl m x) {a b : Nat} (ha : a < m) (hb : b < m) (hab : a < b) (hs : ∀ i, i < m → (i ∈ [a, b] ↔ x i ≠ 0)) {j0 : Nat} (hj0 : j0 < n) (e0 : ag A m x j0 = N) (hm : ∀ j, j < j0 → ag A m x j ≠ N) : Hit A m n x N ∨ Way A m n x N := by
 have hxa : x a ≠ 0 := (hs a ha).1 (by simp)
 have hxb : x b ≠ 0 := (hs b hb).1 (by simp)
 have pa := hx.nn a ha
 have pb := hx.nn b hb
 have hz : ∀ i, i < m → i ∉ [a, b] → x i = 0 := fun i hi h => Classical.byContradiction fun e => h ((hs i hi).2 e)
 have hnd : [a, b].Nodup := sorted_nodup (by simp; omega)
 have hlm : ∀ i ∈ [a, b], i < m := by simp; omega
 have K : ∀ j, ag A m x j = N → x a * df A j0 a j + x b * df A j0 b j = 0 := by
  intro j hj
  have h1 := ag_list (A := A) hnd hlm hz j
  have h2 := ag_list (A := A) hnd hlm hz j0
  rw [hj] at h1; rw [e0] at h2
  simp only [ls] at h1 h2
  unfold df; grind
 by_cases g : ∃ j1, j1 < n ∧ ag A m x j1 = N ∧ df A j0 b j1 ≠ 0
 ·obtain ⟨j1, hj1, e1, hd⟩ := g
  have k1 := K j1 e1
  have hlt : j0 < j1 := by
   rcases Nat.lt_trichotomy j0 j1 with h | h | h
   ·exact h
   ·subst h; unfold df at hd; omega
   ·exact absurd e1 (hm j1 h)
  refine .inl ⟨[a, b], [j0, j1], ⟨by simp; omega, by simp; omega, hlm, by simp; omega, rfl, by simp⟩, hs, by simp; exact ⟨e0, e1⟩, ?_, ?_, a, ha, ?_⟩
  ·refine gd_of (x := [x a, x b]) rfl (by simp; omega) ⟨df A j0 b j1, by simp [pc], hd⟩ fun i k hi hk => ?_
   simp only [pc, List.length_cons, List.length_nil] at hi hk
   obtain rfl | rfl : i = 0 ∨ i = 1 := by omega
   all_goals obtain rfl | rfl : k = 0 ∨ k = 1 := by omega
   all_goals simp only [pc, List.getD_cons_zero, List.getD_cons_succ]
   all_goals grind
  ·refine par_of hx hs fun i k hi hk h1 h2 => ?_
   simp only [List.mem_cons, List.not_mem_nil, or_false] at h1 h2
   have hba : b ≠ a := by omega
   rcases h1 with rfl | rfl <;> rcases h2 with rfl | rfl <;> simp only [pc, put, if_true, if_neg hba] <;> grind
  ·simp only [ev, pc, put, List.map_cons, if_true]; exact ab_pos hd
 ·refine .inr (aim (y := put [b] [1]) (c := A b j0) hx ha hxa ?_ ⟨b, hb, ?_⟩ ?_ ?_)
  ·simp [put]; omega
  ·simp [put]
  ·intro i hi h0
   refine put_zero _ _ _ fun h => (hs i hi).1 ?_ h0
   simp at h; simp [h]
  ·intro j hj e
   have hd : df A j0 b j = 0 := Classical.byContradiction fun hn => g ⟨j, hj, e, hn⟩
   rw [ag_list (s := [b]) (by simp) (by simpa using hb) (fun i _ h => put_zero _ _ _ h)]
   simp only [ls, put, if_true]
   unfold df at hd; omega

theorem step3 (hx : Pl m x) {a b c : Nat} (ha : a < m) (hb : b < m) (hc : c < m) (hab : a < b) (hbc : b < c) (hs : ∀ i, i < m → (i ∈ [a, b, c] ↔ x i ≠ 0)) {j0 : Nat} (hj0 : j0 < n) (e0 : ag A m x j0 = N) (hm : ∀ j, j < j0 → ag A m x j ≠ N) : Hit A m n x N ∨ Way A m n x N := by
 have hxa : x a ≠ 0 := (hs a ha).1 (by simp)
 have hxb : x b ≠ 0 := (hs b hb).1 (by simp)
 have hxc : x c ≠ 0 := (hs c hc).1 (by simp)
 have pa := hx.nn a ha
 have pb := hx.nn b hb
 have pcc := hx.nn c hc
 have hz : ∀ i, i < m → i ∉ [a, b, c] → x i = 0 := fun i hi h => Classical.byContradiction fun e => h ((hs i hi).2 e)
 have hnd : [a, b, c].Nodup := sorted_nodup (by simp; omega)
 have hlm : ∀ i ∈ [a, b, c], i < m := by simp; omega
 have K : ∀ j, ag A m x j = N → x a * df A j0 a j + x b * df A j0 b j + x c * df A j0 c j = 0 := by
  intro j hj
  have h1 := ag_list (A := A) hnd hlm hz j
  have h2 := ag_list (A := A) hnd hlm hz j0
  rw [hj] at h1; rw [e0] at h2
  simp only [ls] at h1 h2
  unfold df; grind
 by_cases g : ∃ j1 j2, j1 < n ∧ ag A m x j1 = N ∧ j2 < n ∧ ag A m x j2 = N ∧ j1 < j2 ∧ j0 < j1 ∧ d2 A j0 j1 j2 b c ≠ 0
 ·obtain ⟨j1, j2, hj1, e1, hj2, e2, hlt, hlt0, hd⟩ := g
  have k1 := K j1 e1
  have k2 := K j2 e2
  refine .inl ⟨[a, b, c], [j0, j1, j2], ⟨by simp; omega, by simp; omega, hlm, by simp; omega, rfl, by simp⟩, hs, by simp; exact ⟨e0, e1, e2⟩, ?_, ?_, a, ha, ?_⟩
  ·refine gd_of (x := [x a, x b, x c]) rfl (by simp; omega) ⟨d2 A j0 j1 j2 b c, by simp [pc], hd⟩ fun i k hi hk => ?_
   simp only [pc, List.length_cons, List.length_nil] at hi hk
   unfold d2 at *
   obtain rfl | rfl | rfl : i = 0 ∨ i = 1 ∨ i = 2 := by omega
   all_goals obtain rfl | rfl | rfl : k = 0 ∨ k = 1 ∨ k = 2 := by omega
   all_goals simp only [pc, d2, List.getD_cons_zero, List.getD_cons_succ]
   all_goals grind
  ·refine par_of hx hs fun i k hi hk h1 h2 => ?_
   simp only [List.mem_cons, List.not_mem_nil, or_false] at h1 h2
   have hba : b ≠ a := by omega
   have hca : c ≠ a := by omega
   have hcb : c ≠ b := by omega
   rcases h1 with rfl | rfl | rfl <;> rcases h2 with rfl | rfl | rfl <;> simp only [pc, d2, put, if_true, if_neg hba, if_neg hca, if_neg hcb] <;> grind
  ·simp only [ev, pc, put, List.map_cons, if_true]; exact ab_pos hd
 ·obtain ⟨y, z, hne, hyz⟩ := dep2 (fun j => j < n ∧ ag A m x j = N) (df A j0 b) (df A j0 c) (by
   have h0 : ∀ i j, i < j → i < n → ag A m x i = N → j < n → ag A m x j = N → df A j0 b i * df A j0 c j = df A j0 b j * df A j0 c i := by
    intro i j hij hi ei hj ej
    rcases Nat.lt_trichotomy j0 i with h | h | h
    ·have : d2 A j0 i j b c = 0 := Classical.byContradiction fun hn => g ⟨i, j, hi, ei, hj, ej, hij, h, hn⟩
     unfold d2 at this; omega
    ·subst h; unfold df; simp
    ·exact absurd ei (hm i h)
   intro i j hi hj
   rcases Nat.lt_trichotomy i j with h | h | h
   ·exact h0 i j h hi.1 hi.2 hj.1 hj.2
   ·subst h; rfl
   ·exact (h0 j i h hj.1 hj.2 hi.1 hi.2).symm)
  refine .inr (aim (y := put [b, c] [y, z]) (c := y * A b j0 + z * A c j0) hx ha hxa ?_ ?_ ?_ ?_)
  ·exact put_zero _ _ _ (by simp; omega)
  ·have hcb : c ≠ b := by omega
   rcases hne with h | h
   ·exact ⟨b, hb, by simpa [put] using h⟩
   ·exact ⟨c, hc, by simpa [put, hcb] using h⟩
  ·intro i hi h0
   refine put_zero _ _ _ fun h => (hs i hi).1 ?_ h0
   simp at h; simp [h]
  ·intro j hj e
   have hcb : c ≠ b := by omega
   rw [ag_list (s := [b, c]) (sorted_nodup (by simp; omega)) (by simp; omega) (fun i _ h => put_zero _ _ _ h)]
   simp only [ls, put, if_true, if_neg hcb]
   have := hyz j ⟨hj, e⟩
   unfold df at this; grind

theorem step4 (hx : Pl m x) {a b c d : Nat} (ha : a < m) (hb : b < m) (hc : c < m) (hd4 : d < m) (hab : a < b) (hbc : b < c) (hcd : c < d) (hs : ∀ i, i < m → (i ∈ [a, b, c, d] ↔ x i ≠ 0)) {j0 : Nat} (hj0 : j0 < n) (e0 : ag A m x j0 = N) (hm : ∀ j, j < j0 → ag A m x j ≠ N) : Hit A m n x N ∨ Way A m n x N := by
 have hxa : x a ≠ 0 := (hs a ha).1 (by simp)
 have hxb : x b ≠ 0 := (hs b hb).1 (by simp)
 have hxc : x c ≠ 0 := (hs c hc).1 (by simp)
 have hxd : x d ≠ 0 := (hs d hd4).1 (by simp)
 have pa := hx.nn a ha
 have pb := hx.nn b hb
 have pcc := hx.nn c hc
 have pd := hx.nn d hd4
 have hz : ∀ i, i < m → i ∉ [a, b, c, d] → x i = 0 := fun i hi h => Classical.byContradiction fun e => h ((hs i hi).2 e)
 have hnd : [a, b, c, d].Nodup := sorted_nodup (by simp; omega)
 have hlm : ∀ i ∈ [a, b, c, d], i < m := by simp; omega
 have K : ∀ j, ag A m x j = N → x a * df A j0 a j + x b * df A j0 b j + x c * df A j0 c j + x d * df A j0 d j = 0 := by
  intro j hj
  have h1 := ag_list (A := A) hnd hlm hz j
  have h2 := ag_list (A := A) hnd hlm hz j0
  rw [hj] at h1; rw [e0] at h2
  simp only [ls] at h1 h2
  unfold df; grind
 by_cases g : ∃ j1 j2 j3, j1 < n ∧ ag A m x j1 = N ∧ j2 < n ∧ ag A m x j2 = N ∧ j3 < n ∧ ag A m x j3 = N ∧ j1 < j2 ∧ j2 < j3 ∧ j0 < j1 ∧ d3 A j0 j1 j2 j3 b c d ≠ 0
 ·obtain ⟨j1, j2, j3, hj1, e1, hj2, e2, hj3, e3, hlt, hlt2, hlt0, hd⟩ := g
  have k1 := K j1 e1
  have k2 := K j2 e2
  have k3 := K j3 e3
  have P : ∀ (i k : Nat), i < 4 → k < 4 → [x a, x b, x c, x d].getD i 0 * (pc A [a, b, c, d] [j0, j1, j2, j3]).getD k 0 = [x a, x b, x c, x d].getD k 0 * (pc A [a, b, c, d] [j0, j1, j2, j3]).getD i 0 := by
   intro i k hi hk
   simp only [pc, d3]
   generalize df A j0 a j1 = a1 at *
   generalize df A j0 a j2 = a2 at *
   generalize df A j0 a j3 = a3 at *
   generalize df A j0 b j1 = b1 at *
   generalize df A j0 b j2 = b2 at *
   generalize df A j0 b j3 = b3 at *
   generalize df A j0 c j1 = c1 at *
   generalize df A j0 c j2 = c2 at *
   generalize df A j0 c j3 = c3 at *
   generalize df A j0 d j1 = d1 at *
   generalize df A j0 d j2 = d2 at *
   generalize df A j0 d j3 = d3 at *
   generalize x a = xa at *
   generalize x b = xb at *
   generalize x c = xc at *
   generalize x d = xd at *
   clear hd hx K hz hnd hlm hs hm e0 e1 e2 e3
   obtain rfl | rfl | rfl | rfl : i = 0 ∨ i = 1 ∨ i = 2 ∨ i = 3 := by omega
   all_goals obtain rfl | rfl | rfl | rfl : k = 0 ∨ k = 1 ∨ k = 2 ∨ k = 3 := by omega
   all_goals simp only [List.getD_cons_zero, List.getD_cons_succ]
   all_goals grind
  refine .inl ⟨[a, b, c, d], [j0, j1, j2, j3], ⟨by simp; omega, by simp; omega, hlm, by simp; omega, rfl, by simp⟩, hs, by simp; exact ⟨e0, e1, e2, e3⟩, ?_, ?_, a, ha, ?_⟩
  ·refine gd_of (x := [x a, x b, x c, x d]) rfl (by simp; omega) ⟨d3 A j0 j1 j2 j3 b c d, by simp [pc], hd⟩ fun i k hi hk => ?_
   simp only [pc, List.length_cons, List.length_nil] at hi hk
   exact P i k hi hk
  ·refine par_of hx hs fun i k hi hk h1 h2 => ?_
   simp only [List.mem_cons, List.not_mem_nil, or_false] at h1 h2
   have hba : b ≠ a := by omega
   have hca : c ≠ a := by omega
   have hcb : c ≠ b := by omega
   have hda : d ≠ a := by omega
   have hdb : d ≠ b := by omega
   have hdc : d ≠ c := by omega
   have q0 : put [a, b, c, d] (pc A [a, b, c, d] [j0, j1, j2, j3]) a = (pc A [a, b, c, d] [j0, j1, j2, j3]).getD 0 0 := by simp [pc, put]
   have q1 : put [a, b, c, d] (pc A [a, b, c, d] [j0, j1, j2, j3]) b = (pc A [a, b, c, d] [j0, j1, j2, j3]).getD 1 0 := by simp [pc, put, hba]
   have q2 : put [a, b, c, d] (pc A [a, b, c, d] [j0, j1, j2, j3]) c = (pc A [a, b, c, d] [j0, j1, j2, j3]).getD 2 0 := by simp [pc, put, hca, hcb]
   have q3 : put [a, b, c, d] (pc A [a, b, c, d] [j0, j1, j2, j3]) d = (pc A [a, b, c, d] [j0, j1, j2, j3]).getD 3 0 := by simp [pc, put, hda, hdb, hdc]
   have e0 : x a = [x a, x b, x c, x d].getD 0 0 := rfl
   have e1 : x b = [x a, x b, x c, x d].getD 1 0 := rfl
   have e2 : x c = [x a, x b, x c, x d].getD 2 0 := rfl
   have e3 : x d = [x a, x b, x c, x d].getD 3 0 := rfl
   have E : ∀ k, k = a ∨ k = b ∨ k = c ∨ k = d → ∃ l, l < 4 ∧ x k = [x a, x b, x c, x d].getD l 0 ∧ put [a, b, c, d] (pc A [a, b, c, d] [j0, j1, j2, j3]) k = (pc A [a, b, c, d] [j0, j1, j2, j3]).getD l 0 := by
    rintro k (rfl | rfl | rfl | rfl)
    ·exact ⟨0, by omega, e0, q0⟩
    ·exact ⟨1, by omega, e1, q1⟩
    ·exact ⟨2, by omega, e2, q2⟩
    ·exact ⟨3, by omega, e3, q3⟩
   obtain ⟨l1, hl1, f1, f2⟩ := E i h1
   obtain ⟨l2, hl2, f3, f4⟩ := E k h2
   rw [f2, f4, f1, f3]
   exact P l1 l2 hl1 hl2
  ·simp only [ev, pc, put, List.map_cons, if_true]; exact ab_pos hd
 ·obtain ⟨y, z, v, hne, hyz⟩ := dep3 (fun j => j < n ∧ ag A m x j = N) (df A j0 b) (df A j0 c) (df A j0 d) (by
   have h0 : ∀ i j k, i < j → j < k → (i < n ∧ ag A m x i = N) → (j < n ∧ ag A m x j = N) → (k < n ∧ ag A m x k = N) →
    df A j0 b i * (df A j0 c j * df A j0 d k - df A j0 c k * df A j0 d j) - df A j0 b j * (df A j0 c i * df A j0 d k - df A j0 c k * df A j0 d i) + df A j0 b k * (df A j0 c i * df A j0 d j - df A j0 c j * df A j0 d i) = 0 := by
    intro i j k hij hjk hi hj hk
    rcases Nat.lt_trichotomy j0 i with h | h | h
    ·have : d3 A j0 i j k b c d = 0 := Classical.byContradiction fun hn => g ⟨i, j, k, hi.1, hi.2, hj.1, hj.2, hk.1, hk.2, hij, hjk, h, hn⟩
     unfold d3 at this; exact this
    ·subst h; unfold df; simp
    ·exact absurd hi.2 (hm i h)
   intro i j k hi hj hk
   rcases Nat.lt_trichotomy i j with h1 | h1 | h1 <;> rcases Nat.lt_trichotomy j k with h2 | h2 | h2 <;> rcases Nat.lt_trichotomy i k with h3 | h3 | h3
   all_goals first
    | omega
    | (subst h1; grind)
    | (subst h2; grind)
    | (subst h3; grind)
    | (have := h0 i j k h1 h2 hi hj hk; grind)
    | (have := h0 i k j h3 h2 hi hk hj; grind)
    | (have := h0 j i k h1 h3 hj hi hk; grind)
    | (have := h0 j k i h2 h3 hj hk hi; grind)
    | (have := h0 k i j h3 h1 hk hi hj; grind)
    | (have := h0 k j i h2 h1 hk hj hi; grind))
  refine .inr (aim (y := put [b, c, d] [y, z, v]) (c := y * A b j0 + z * A c j0 + v * A d j0) hx ha hxa ?_ ?_ ?_ ?_)
  ·exact put_zero _ _ _ (by simp; omega)
  ·have hcb : c ≠ b := by omega
   have hdb : d ≠ b := by omega
   have hdc : d ≠ c := by omega
   rcases hne with h | h | h
   ·exact ⟨b, hb, by simpa [put] using h⟩
   ·exact ⟨c, hc, by simpa [put, hcb] using h⟩
   ·exact ⟨d, hd4, by simpa [put, hdb, hdc] using h⟩
  ·intro i hi h0
   refine put_zero _ _ _ fun h => (hs i hi).1 ?_ h0
   simp at h; simp [h]
  ·intro j hj e
   have hcb : c ≠ b := by omega
   have hdb : d ≠ b := by omega
   have hdc : d ≠ c := by omega
   rw [ag_list (s := [b, c, d]) (sorted_nodup (by simp; omega)) (by simp; omega) (fun i _ h => put_zero _ _ _ h)]
   simp only [ls, put, if_true, if_neg hcb, if_neg hdb, if_neg hdc]
   have := hyz j ⟨hj, e⟩
   unfold df at this; grind

theorem range_sorted (m : Nat) : (List.range m).Pairwise (· < ·) := List.pairwise_lt_range
theorem step (hm : m ≤ 4) (hN : Su A m n x N) (hx : Pl m x) : Hit A m n x N ∨ Way A m n x N := by
 obtain ⟨j0, hj0, e0, hlt⟩ := least_ex (fun j => ag A m x j = N) n hN.at_
 have hmem : ∀ i, i < m → (i ∈ (List.range m).filter (fun i => x i ≠ 0) ↔ x i ≠ 0) := fun i hi => by simp [hi]
 have hlm : ∀ i ∈ (List.range m).filter (fun i => x i ≠ 0), i < m := fun i hi => (filt_mem.1 hi).1
 have hso : ((List.range m).filter (fun i => x i ≠ 0)).Pairwise (· < ·) := (range_sorted m).filter _
 have hle : ((List.range m).filter (fun i => x i ≠ 0)).length ≤ m := by
  have := List.length_filter_le (fun i => decide (x i ≠ 0)) (List.range m)
  simpa using this
 generalize (List.range m).filter (fun i => decide (x i ≠ 0)) = s at *
 match s, hmem, hlm, hso, hle with
 | [], hmem, hlm, hso, hle =>
  obtain ⟨i, hi, hp⟩ := sm_pos_ex hx.ps
  exact absurd ((hmem i hi).2 (by omega)) (by simp)
 | [a], hmem, hlm, hso, hle => exact .inl (step1 hx (hlm a (by simp)) hmem hj0 e0)
 | [a, b], hmem, hlm, hso, hle => exact step2 hx (hlm a (by simp)) (hlm b (by simp)) (by simpa using hso) hmem hj0 e0 hlt
 | [a, b, c], hmem, hlm, hso, hle =>
  simp at hso
  exact step3 hx (hlm a (by simp)) (hlm b (by simp)) (hlm c (by simp)) hso.1.1 hso.2 hmem hj0 e0 hlt
 | [a, b, c, d], hmem, hlm, hso, hle =>
  simp at hso
  exact step4 hx (hlm a (by simp)) (hlm b (by simp)) (hlm c (by simp)) (hlm d (by simp)) hso.1.1 hso.2.1.1 hso.2.2 hmem hj0 e0 hlt
 | _ :: _ :: _ :: _ :: _ :: _, _, _, _, hle => simp at hle; omega
end


theorem put_nonneg : ∀ (s : List Nat) (p : List Int), (∀ a ∈ p, 0 ≤ a) → ∀ r, 0 ≤ put s p r
 | [], _, _, _ => by simp [put]
 | _ :: _, [], _, _ => by simp [put]
 | a :: s, q :: p, h, r => by
  simp only [put]
  split
  ·exact h q (by simp)
  ·exact put_nonneg s p (fun a ha => h a (by simp [ha])) r
theorem ev_nonneg (A : Nat → Nat → Int) (s c : List Nat) (r : Nat) : 0 ≤ ev A s c r :=
 put_nonneg _ _ (fun a ha => by
  obtain ⟨b, _, rfl⟩ := List.mem_map.1 ha
  exact ab_nonneg b) r
theorem ev_pl {A : Nat → Nat → Int} {s c : List Nat} {m : Nat} (h : ∃ r, r < m ∧ 0 < ev A s c r) : Pl m (ev A s c) := by
 obtain ⟨r, hr, hp⟩ := h
 exact ⟨fun i _ => ev_nonneg A s c i, sm_pos (fun i _ => ev_nonneg A s c i) hr hp⟩
structure Gp (A : Nat → Nat → Int) (m n : Nat) (s c : List Nat) : Prop where
 ch : Ch m n s c
 gd : Gd (pc A s c)
 pl : Pl m (ev A s c)
def mu (A : Nat → Nat → Int) (m n : Nat) (x : Nat → Int) (N : Int) : Nat := cn m (fun i => x i ≠ 0) + cn n (fun j => ag A m x j ≠ N)
theorem mu_move {A : Nat → Nat → Int} {m n : Nat} {x z : Nat → Int} {N P Q M : Int} (hz : ∀ i, i < m → x i = 0 → z i = 0) (hT : ∀ j, j < n → ag A m x j = N → ag A m (fun i => Q * x i + P * z i) j = M)
 (h : (∃ i, i < m ∧ x i ≠ 0 ∧ Q * x i + P * z i = 0) ∨ (∃ j, j < n ∧ ag A m x j ≠ N ∧ ag A m (fun i => Q * x i + P * z i) j = M)) : mu A m n (fun i => Q * x i + P * z i) M < mu A m n x N := by
 show cn m (fun i => decide (Q * x i + P * z i ≠ 0)) + cn n (fun j => decide (ag A m (fun i => Q * x i + P * z i) j ≠ M)) < cn m (fun i => decide (x i ≠ 0)) + cn n (fun j => decide (ag A m x j ≠ N))
 have h1 : ∀ i, i < m → decide (Q * x i + P * z i ≠ 0) = true → decide (x i ≠ 0) = true := fun i hi h => by
  rw [decide_eq_true_eq] at h ⊢
  intro e; apply h; rw [e, hz i hi e]; simp
 have h2 : ∀ j, j < n → decide (ag A m (fun i => Q * x i + P * z i) j ≠ M) = true → decide (ag A m x j ≠ N) = true := fun j hj h => by
  rw [decide_eq_true_eq] at h ⊢
  exact fun e => h (hT j hj e)
 have l1 := cn_le h1
 have l2 := cn_le h2
 rcases h with ⟨i, hi, a, b⟩ | ⟨j, hj, a, b⟩
 ·have := cn_lt h1 hi (decide_eq_false (by simpa using b)) (decide_eq_true a)
  omega
 ·have := cn_lt h2 hj (decide_eq_false (by simpa using b)) (decide_eq_true a)
  omega
theorem sm_neg (n : Nat) (f : Nat → Int) : sm n (fun i => - f i) = - sm n f := by
 have := sm_mul n (-1) f
 rw [sm_congr (g := fun i => - f i) (fun i _ => by omega)] at this
 omega
theorem ag_neg (A : Nat → Nat → Int) (m : Nat) (x : Nat → Int) (j : Nat) : ag A m (fun i => - x i) j = - ag A m x j := by
 unfold ag
 rw [← sm_neg]
 exact sm_congr fun i _ => by rw [Int.neg_mul]
theorem Way.turn {A : Nat → Nat → Int} {m n : Nat} {x z : Nat → Int} {N c : Int} (h : sm m z = 0 ∧ (∃ i, i < m ∧ z i ≠ 0) ∧ (∀ i, i < m → x i = 0 → z i = 0) ∧ ∀ j, j < n → ag A m x j = N → ag A m z j = c) :
 sm m (fun i => - z i) = 0 ∧ (∃ i, i < m ∧ - z i ≠ 0) ∧ (∀ i, i < m → x i = 0 → - z i = 0) ∧ ∀ j, j < n → ag A m x j = N → ag A m (fun i => - z i) j = - c := by
 obtain ⟨a, ⟨i, hi, b⟩, c, d⟩ := h
 refine ⟨by rw [sm_neg, a]; rfl, ⟨i, hi, by omega⟩, fun i hi e => by rw [c i hi e]; rfl, fun j hj e => by rw [ag_neg, d j hj e]⟩

theorem even_le {A : Nat → Nat → Int} {m n : Nat} (hm : m ≤ 4) : ∀ k x N, mu A m n x N = k → Pl m x → Su A m n x N → ∃ s c M, Gp A m n s c ∧ Su A m n (ev A s c) M ∧ N * sm m (ev A s c) ≤ M * sm m x := by
 intro k
 induction k using Nat.strongRecOn with
 | _ k ih =>
  rintro x N rfl hx hN
  rcases step hm hN hx with ⟨s, c, h1, h2, h3, h4, h5, h6⟩ | ⟨z, hz0, hne, hz, c, hT⟩
  ·obtain ⟨M, hM, e⟩ := h5.su hx (ev_pl h6) hN
   exact ⟨s, c, M, ⟨h1, h4, ev_pl h6⟩, hM, Int.le_of_eq e⟩
  ·have main : ∀ z c, 0 ≤ c → (sm m z = 0 ∧ (∃ i, i < m ∧ z i ≠ 0) ∧ (∀ i, i < m → x i = 0 → z i = 0) ∧ ∀ j, j < n → ag A m x j = N → ag A m z j = c) →
    ∃ s c M, Gp A m n s c ∧ Su A m n (ev A s c) M ∧ N * sm m (ev A s c) ≤ M * sm m x := by
    rintro z c hc ⟨hz0, hne, hz, hT⟩
    obtain ⟨P, Q, hP, hQ, p1, p2, p3, p4, p5⟩ := move hx hz0 hne hz hN hT
    obtain ⟨s, c', M, g1, g2, g3⟩ := ih _ (mu_move hz p4 p5) _ _ rfl p1 p3
    refine ⟨s, c', M, g1, g2, ?_⟩
    rw [p2] at g3
    have hE := g1.pl.ps
    have h1 : 0 ≤ (P * c) * sm m (ev A s c') := Int.mul_nonneg (Int.mul_nonneg (by omega) hc) (by omega)
    have h2 : Q * (N * sm m (ev A s c')) ≤ Q * (M * sm m x) := by grind
    exact Int.le_of_mul_le_mul_left h2 hQ
   by_cases g : 0 ≤ c
   ·exact main z c g ⟨hz0, hne, hz, hT⟩
   ·exact main _ (-c) (by omega) (Way.turn ⟨hz0, hne, hz, hT⟩)

def Best (A : Nat → Nat → Int) (m n : Nat) (x : Nat → Int) (N : Int) : Prop := ∀ y M, Pl m y → Su A m n y M → M * sm m x ≤ N * sm m y

theorem even_best {A : Nat → Nat → Int} {m n : Nat} (hm : m ≤ 4) {r : Nat} (hr : r < m) : ∀ k x N, mu A m n x N = k → Pl m x → Su A m n x N → Best A m n x N → x r ≠ 0 →
 ∃ s c M, Gp A m n s c ∧ Su A m n (ev A s c) M ∧ N * sm m (ev A s c) = M * sm m x ∧ 0 < ev A s c r := by
 intro k
 induction k using Nat.strongRecOn with
 | _ k ih =>
  rintro x N rfl hx hN hb hxr
  have hxr' : 0 < x r := by have := hx.nn r hr; omega
  rcases step hm hN hx with ⟨s, c, h1, h2, h3, h4, h5, h6⟩ | ⟨z, hz0, hne, hz, c, hT⟩
  ·obtain ⟨M, hM, e⟩ := h5.su hx (ev_pl h6) hN
   refine ⟨s, c, M, ⟨h1, h4, ev_pl h6⟩, hM, e, ?_⟩
   have h7 := h5.sm hr
   have h8 := Int.mul_pos hxr' (ev_pl h6).ps
   rw [h7] at h8
   exact Int.lt_of_not_ge fun hle => by
    have := Int.mul_nonpos_of_nonpos_of_nonneg hle (Int.le_of_lt hx.ps)
    omega
  ·have up : ∀ z c, (sm m z = 0 ∧ (∃ i, i < m ∧ z i ≠ 0) ∧ (∀ i, i < m → x i = 0 → z i = 0) ∧ ∀ j, j < n → ag A m x j = N → ag A m z j = c) → c ≤ 0 := by
    rintro z c ⟨hz0, hne, hz, hT⟩
    obtain ⟨P, Q, hP, hQ, p1, p2, p3, p4, p5⟩ := move hx hz0 hne hz hN hT
    have h1 := hb _ _ p1 p3
    rw [p2] at h1
    refine Int.not_lt.1 fun hc => ?_
    have h2 := Int.mul_pos (Int.mul_pos hP hc) hx.ps
    grind
   have u1 := up z c ⟨hz0, hne, hz, hT⟩
   have u2 := up _ (-c) (Way.turn ⟨hz0, hne, hz, hT⟩)
   obtain rfl : c = 0 := by omega
   have go : ∀ z, (sm m z = 0 ∧ (∃ i, i < m ∧ z i ≠ 0) ∧ (∀ i, i < m → x i = 0 → z i = 0) ∧ ∀ j, j < n → ag A m x j = N → ag A m z j = 0) → 0 ≤ z r →
    ∃ s c M, Gp A m n s c ∧ Su A m n (ev A s c) M ∧ N * sm m (ev A s c) = M * sm m x ∧ 0 < ev A s c r := by
    rintro z ⟨hz0, hne, hz, hT⟩ hzr
    obtain ⟨P, Q, hP, hQ, p1, p2, p3, p4, p5⟩ := move hx hz0 hne hz hN hT
    obtain ⟨s, c', M, g1, g2, g3, g4⟩ := ih _ (mu_move hz p4 p5) _ _ rfl p1 p3 (by
     intro y M hy hM
     have h1 := hb y M hy hM
     rw [p2]
     have h2 := Int.mul_le_mul_of_nonneg_left h1 (Int.le_of_lt hQ)
     grind) (by
     have h1 := Int.mul_pos hQ hxr'
     have h2 := Int.mul_nonneg (Int.le_of_lt hP) hzr
     show Q * x r + P * z r ≠ 0
     omega)
    refine ⟨s, c', M, g1, g2, ?_, g4⟩
    rw [p2] at g3
    have h2 : Q * (N * sm m (ev A s c')) = Q * (M * sm m x) := by grind
    exact Int.eq_of_mul_eq_mul_left (by omega) h2
   by_cases g : 0 ≤ z r
   ·exact go z ⟨hz0, hne, hz, hT⟩ g
   ·exact go _ (Way.turn ⟨hz0, hne, hz, hT⟩) (show 0 ≤ - z r by omega)

def lst (b : Nat) : List Nat := (List.range 4).filter fun i => b.testBit i
theorem lst_of {s : List Nat} (h : s.Pairwise (· < ·)) (hl : ∀ i ∈ s, i < 4) : ∃ b, b < 16 ∧ lst b = s := by
 match s, h, hl with
 | [], _, _ => exact ⟨0, by decide, rfl⟩
 | [a], _, hl => exact (by decide : ∀ a, a < 4 → ∃ b, b < 16 ∧ lst b = [a]) a (hl a (by simp))
 | [a, b], h, hl =>
  simp at h
  exact (by decide : ∀ a, a < 4 → ∀ b, b < 4 → a < b → ∃ x, x < 16 ∧ lst x = [a, b]) a (hl a (by simp)) b (hl b (by simp)) h
 | [a, b, c], h, hl =>
  simp at h
  have h1 := hl c (by simp)
  obtain ⟨rfl, rfl, rfl⟩ | ⟨rfl, rfl, rfl⟩ | ⟨rfl, rfl, rfl⟩ | ⟨rfl, rfl, rfl⟩ : (a = 0 ∧ b = 1 ∧ c = 2) ∨ (a = 0 ∧ b = 1 ∧ c = 3) ∨ (a = 0 ∧ b = 2 ∧ c = 3) ∨ (a = 1 ∧ b = 2 ∧ c = 3) := by omega
  ·exact ⟨7, by decide, by decide⟩
  ·exact ⟨11, by decide, by decide⟩
  ·exact ⟨13, by decide, by decide⟩
  ·exact ⟨14, by decide, by decide⟩
 | a :: b :: c :: d :: s, h, hl =>
  simp at h
  have h1 := hl d (by simp)
  obtain ⟨⟨ha, ha2, ha3⟩, ⟨hb, hb2⟩, hc, hd⟩ := h
  obtain rfl : s = [] := by
   cases s with
   | nil => rfl
   | cons e s =>
    have := hc.2 e (by simp)
    have := hl e (by simp)
    have := hd.1 e (by simp)
    omega
  obtain ⟨rfl, rfl, rfl, rfl⟩ : a = 0 ∧ b = 1 ∧ c = 2 ∧ d = 3 := by omega
  exact ⟨15, by decide, by decide⟩

theorem best_ex (A : Nat → Nat → Int) {m n : Nat} (hm : m ≤ 4) (hn : n ≤ 4) (h0 : 0 < m) (h1 : 0 < n) : ∃ s c N, Gp A m n s c ∧ Su A m n (ev A s c) N ∧ Best A m n (ev A s c) N := by
 have hb : ∀ s c, Gp A m n s c → ∃ k, k < 256 ∧ s = lst (k / 16) ∧ c = lst (k % 16) := by
  intro s c g
  obtain ⟨a, ha, rfl⟩ := lst_of g.ch.ss fun i hi => Nat.lt_of_lt_of_le (g.ch.sl i hi) hm
  obtain ⟨b, hb, rfl⟩ := lst_of g.ch.cc fun i hi => Nat.lt_of_lt_of_le (g.ch.cl i hi) hn
  exact ⟨16 * a + b, by omega, by rw [show (16 * a + b) / 16 = a by omega], by rw [show (16 * a + b) % 16 = b by omega]⟩
 have hne : ∀ x N, Pl m x → Su A m n x N → ∃ s c M, Gp A m n s c ∧ Su A m n (ev A s c) M ∧ N * sm m (ev A s c) ≤ M * sm m x := fun x N hx hN => even_le hm _ x N rfl hx hN
 have hone : Pl m (fun _ => 1) := ⟨fun _ _ => by decide, sm_pos (i := 0) (fun _ _ => by decide) h0 (by decide)⟩
 let f : Nat → Nat → Int := fun k => ev A (lst (k / 16)) (lst (k % 16))
 have hsu : ∀ k, ∃ N, Su A m n (f k) N := fun k => su_ex A m (f k) n h1
 obtain ⟨g, hg⟩ := Classical.axiomOfChoice hsu
 obtain ⟨N1, hN1⟩ := su_ex A m (fun _ => 1) n h1
 obtain ⟨s0, c0, _, g0, _, _⟩ := hne _ _ hone hN1
 obtain ⟨k0, hk0, rfl, rfl⟩ := hb s0 c0 g0
 obtain ⟨k, hk, hB, hmin⟩ := min_ratio (fun k => Gp A m n (lst (k / 16)) (lst (k % 16))) (fun k => - g k) (fun k => sm m (f k)) 256 (fun k _ h => h.pl.ps) ⟨k0, hk0, g0⟩
 refine ⟨lst (k / 16), lst (k % 16), g k, hB, hg k, fun y M hy hM => ?_⟩
 obtain ⟨s, c, L, g1, g2, g3⟩ := hne y M hy hM
 obtain ⟨j, hj, rfl, rfl⟩ := hb s c g1
 have h4 := hmin j hj g1
 have h5 : L = g j := g2.uniq (hg j)
 subst h5
 have hW := g1.pl.ps
 have hX := hB.pl.ps
 have hY := hy.ps
 -- M / Y ≤ L / W ≤ g k / X
 have a1 : M * sm m (f j) * sm m (f k) ≤ g j * sm m y * sm m (f k) := Int.mul_le_mul_of_nonneg_right g3 (Int.le_of_lt hX)
 have a2 : g j * sm m (f k) * sm m y ≤ g k * sm m (f j) * sm m y := Int.mul_le_mul_of_nonneg_right (by grind) (Int.le_of_lt hY)
 have a3 : (M * sm m (f k)) * sm m (f j) ≤ (g k * sm m y) * sm m (f j) := by grind
 exact Int.le_of_mul_le_mul_right a3 hW

def tr (A : Nat → Nat → Int) (j i : Nat) : Int := - A i j
theorem tr_tr (A : Nat → Nat → Int) : tr (tr A) = A := by funext i j; simp [tr]
theorem ag_pair (A : Nat → Nat → Int) (m n : Nat) (x y : Nat → Int) : sm n (fun j => y j * ag A m x j) + sm m (fun i => x i * ag (tr A) n y i) = 0 := by
 unfold ag
 have h1 : sm n (fun j => y j * sm m fun i => x i * A i j) = sm n (fun j => sm m fun i => y j * (x i * A i j)) := sm_congr fun j _ => (sm_mul m (y j) _).symm
 have h2 : sm m (fun i => x i * sm n fun j => y j * tr A j i) = sm m (fun i => sm n fun j => x i * (y j * tr A j i)) := sm_congr fun i _ => (sm_mul n (x i) _).symm
 rw [h1, h2, sm_swap m n, ← sm_add]
 refine sm_zero fun j _ => ?_
 rw [← sm_add]
 exact sm_zero fun i _ => by unfold tr; grind
theorem weak {A : Nat → Nat → Int} {m n : Nat} {x y : Nat → Int} {N M : Int} (hx : Pl m x) (hy : Pl n y) (hN : Su A m n x N) (hM : Su (tr A) n m y M) : N * sm n y + M * sm m x ≤ 0 := by
 have h := ag_pair A m n x y
 have h1 : N * sm n y ≤ sm n (fun j => y j * ag A m x j) := by
  rw [← sm_mul]
  exact sm_le fun j hj => by have := Int.mul_le_mul_of_nonneg_left (hN.le j hj) (hy.nn j hj); grind
 have h2 : M * sm m x ≤ sm m (fun i => x i * ag (tr A) n y i) := by
  rw [← sm_mul]
  exact sm_le fun j hj => by have := Int.mul_le_mul_of_nonneg_left (hM.le j hj) (hx.nn j hj); grind
 omega


def sk (i k : Nat) : Nat := if k < i then k else k + 1
theorem sm_ins {m i : Nat} (f : Nat → Int) (h : i ≤ m) : sm (m + 1) f = f i + sm m fun k => f (sk i k) := by
 induction m with
 | zero => obtain rfl : i = 0 := by omega
           simp [sm]
 | succ m ih =>
  rcases Nat.lt_or_ge m i with g | g
  ·obtain rfl : i = m + 1 := by omega
   rw [sm, sm_congr (n := m + 1) (f := fun k => f (sk (m + 1) k)) (g := f) fun k hk => by unfold sk; rw [if_pos hk]]
   omega
  ·rw [sm, ih (by omega)]
   have : sk i m = m + 1 := if_neg (by omega)
   show _ = f i + (sm m (fun k => f (sk i k)) + f (sk i m))
   rw [this]; omega
def wd (i : Nat) (x : Nat → Int) (k : Nat) : Int := if k < i then x k else if k = i then 0 else x (k - 1)
theorem wd_at (i : Nat) (x : Nat → Int) : wd i x i = 0 := by simp [wd]
theorem wd_sk (i : Nat) (x : Nat → Int) (k : Nat) : wd i x (sk i k) = x k := by
 unfold wd sk
 by_cases h : k < i
 ·rw [if_pos h, if_pos h]
 ·rw [if_neg h, if_neg (by omega), if_neg (by omega)]; rfl
theorem wd_sm {m i : Nat} (h : i ≤ m) (x : Nat → Int) : sm (m + 1) (wd i x) = sm m x := by
 rw [sm_ins _ h, wd_at, sm_congr (g := x) fun k _ => wd_sk i x k]; omega
theorem wd_ag {A : Nat → Nat → Int} {m i : Nat} (h : i ≤ m) (x : Nat → Int) (j : Nat) : ag A (m + 1) (wd i x) j = ag (fun k => A (sk i k)) m x j := by
 unfold ag
 rw [sm_ins _ h, wd_at, sm_congr (g := fun k => x k * A (sk i k) j) fun k _ => by rw [wd_sk]]
 rw [Int.zero_mul, Int.zero_add]
theorem wd_pl {m i : Nat} (h : i ≤ m) {x : Nat → Int} (hx : Pl m x) : Pl (m + 1) (wd i x) := by
 refine ⟨fun k hk => ?_, by rw [wd_sm h]; exact hx.ps⟩
 unfold wd
 split
 ·rename_i g; exact hx.nn k (by omega)
 ·split
  ·exact Int.le_refl _
  ·exact hx.nn _ (by omega)
theorem wd_su {A : Nat → Nat → Int} {m n i : Nat} (h : i ≤ m) {x : Nat → Int} {N : Int} (hN : Su (fun k => A (sk i k)) m n x N) : Su A (m + 1) n (wd i x) N := by
 refine ⟨fun j hj => by rw [wd_ag h]; exact hN.le j hj, ?_⟩
 obtain ⟨j, hj, e⟩ := hN.at_
 exact ⟨j, hj, by rw [wd_ag h]; exact e⟩
theorem sk_of {m i k : Nat} (hk : k < m + 1) (hi : i ≤ m) (hne : k ≠ i) : ∃ l, l < m ∧ sk i l = k := by
 rcases Nat.lt_or_ge k i with g | g
 ·exact ⟨k, by omega, by unfold sk; rw [if_pos g]⟩
 ·exact ⟨k - 1, by omega, by unfold sk; rw [if_neg (by omega)]; omega⟩

def Even (m n : Nat) : Prop := ∀ (A : Nat → Nat → Int) (x y : Nat → Int) (N M : Int), Pl m x → Pl n y → Su A m n x N → Su (tr A) n m y M → Best A m n x N → Best (tr A) n m y M → N * sm n y + M * sm m x = 0

theorem even_row {m n : Nat} (hm : m + 1 ≤ 4) (hn : n ≤ 4) (h0 : 0 < m) (h1 : 0 < n) (ih : Even m n) {A : Nat → Nat → Int} {x y : Nat → Int} {N M : Int} (hx : Pl (m + 1) x) (hy : Pl n y) (hM : Su (tr A) n (m + 1) y M)
 (bx : Best A (m + 1) n x N) (bY : Best (tr A) n (m + 1) y M) {i : Nat} (hi : i ≤ m) (hlt : ag (tr A) n y i ≠ M) : 0 ≤ N * sm n y + M * sm (m + 1) x := by
 obtain ⟨s, c, N1, g1, g2, g3⟩ := best_ex (fun k => A (sk i k)) (m := m) (n := n) (by omega) hn h0 h1
 obtain ⟨s', c', M1, k1, k2, k3⟩ := best_ex (tr fun k => A (sk i k)) (m := n) (n := m) hn (by omega) h1 h0
 have e := ih (fun k => A (sk i k)) _ _ N1 M1 g1.pl k1.pl g2 k2 g3 k3
 have hx' := g1.pl
 have hy' := k1.pl
 generalize ev (fun k => A (sk i k)) s c = x' at *
 generalize ev (tr fun k => A (sk i k)) s' c' = y' at *
 have b1 := bx _ _ (wd_pl hi hx') (wd_su hi g2)
 rw [wd_sm hi] at b1
 -- N1 * X ≤ N * X1
 have b2 : M1 * sm n y ≤ M * sm n y' := by
  refine Int.not_lt.1 fun hc => ?_
  have hrow := hM.le i (by omega)
  let G := ag (tr A) n y' i
  let Q : Int := ab (G * sm n y) + ab (M * sm n y') + 1
  have hQ : 0 < Q := by have := ab_nonneg (G * sm n y); have := ab_nonneg (M * sm n y'); show 0 < _ + _ + 1; omega
  have hY := hy.ps
  have hpl : Pl n fun j => Q * y j + 1 * y' j := ⟨fun j hj => by
   have := Int.mul_nonneg (Int.le_of_lt hQ) (hy.nn j hj); have := hy'.nn j hj; show 0 ≤ Q * y j + 1 * y' j; omega, by
   rw [sm_lin]; have := Int.mul_pos hQ hy.ps; have := hy'.ps; omega⟩
  obtain ⟨L, hL⟩ := su_ex (tr A) n (fun j => Q * y j + 1 * y' j) (m + 1) (by omega)
  have h2 := bY _ _ hpl hL
  rw [sm_lin] at h2
  obtain ⟨k, hk, hke⟩ := hL.at_
  rw [ag_lin] at hke
  have habs : ∀ p : Int, p ≤ ab p ∧ - p ≤ ab p := fun p => by unfold ab; split <;> omega
  by_cases hki : k = i
  ·subst hki
   -- L = Q * ag y + G, with ag y ≥ M + 1
   have h3 : M + 1 ≤ ag (tr A) n y k := by omega
   have h4 := Int.mul_le_mul_of_nonneg_left h3 (Int.le_of_lt hQ)
   have h5 : (Q * (M + 1) + G) * sm n y ≤ L * sm n y := Int.mul_le_mul_of_nonneg_right (by show Q * (M + 1) + ag (tr A) n y' k ≤ L; omega) (Int.le_of_lt hY)
   have h6 := (habs (G * sm n y)).2
   have h7 := (habs (M * sm n y')).1
   have h8 : Q * 1 ≤ Q * sm n y := Int.mul_le_mul_of_nonneg_left (by omega) (Int.le_of_lt hQ)
   have h9 : Q = ab (G * sm n y) + ab (M * sm n y') + 1 := rfl
   have h10 : (Q * (M + 1) + G) * sm n y = Q * (M * sm n y) + Q * sm n y + G * sm n y := by grind
   have h11 : M * (Q * sm n y + 1 * sm n y') = Q * (M * sm n y) + M * sm n y' := by grind
   omega
  ·obtain ⟨l, hl, rfl⟩ := sk_of hk hi hki
   have h3 := k2.le l hl
   have h3' : ag (tr fun k => A (sk i k)) n y' l = ag (tr A) n y' (sk i l) := rfl
   rw [h3'] at h3
   have h4 := hM.le (sk i l) hk
   have h5 := Int.mul_le_mul_of_nonneg_left h4 (Int.le_of_lt hQ)
   have h6 : (Q * M + M1) * sm n y ≤ L * sm n y := Int.mul_le_mul_of_nonneg_right (by omega) (Int.le_of_lt hY)
   have h7 : (Q * M + M1) * sm n y = Q * (M * sm n y) + M1 * sm n y := by grind
   have h8 : M * (Q * sm n y + 1 * sm n y') = Q * (M * sm n y) + M * sm n y' := by grind
   omega
 -- N1 * Y1 + M1 * X1 = 0
 have pX := hx.ps
 have pY := hy.ps
 have pX1 := hx'.ps
 have pY1 := hy'.ps
 have c1 : (N1 * sm (m + 1) x) * (sm n y * sm n y') ≤ (N * sm m x') * (sm n y * sm n y') := Int.mul_le_mul_of_nonneg_right b1 (Int.le_of_lt (Int.mul_pos pY pY1))
 have c2 : (M1 * sm n y) * (sm (m + 1) x * sm m x') ≤ (M * sm n y') * (sm (m + 1) x * sm m x') := Int.mul_le_mul_of_nonneg_right b2 (Int.le_of_lt (Int.mul_pos pX pX1))
 have c3 : 0 ≤ (N * sm n y + M * sm (m + 1) x) * (sm m x' * sm n y') := by
  have e2 : N1 * sm n y' * (sm (m + 1) x * sm n y) + M1 * sm m x' * (sm (m + 1) x * sm n y) = 0 := by rw [← Int.add_mul, e]; simp
  grind
 refine Int.not_lt.1 fun hc => ?_
 have := Int.mul_neg_of_neg_of_pos hc (Int.mul_pos pX1 pY1)
 omega

theorem even_all : ∀ k m n, m + n = k → 0 < m → m ≤ 4 → 0 < n → n ≤ 4 → Even m n := by
 intro k
 induction k using Nat.strongRecOn with
 | _ k ih =>
  intro m n hk h0 hm h1 hn A x y N M hx hy hN hM bx bY
  have hw := weak hx hy hN hM
  by_cases g : ∃ i, i < m ∧ ag (tr A) n y i ≠ M
  ·obtain ⟨i, hi, hne⟩ := g
   match m, h0, hm, hk, hx, hN, hM, bx, bY, hi, hw with
   | 1, h0, hm, hk, hx, hN, hM, bx, bY, hi, hw =>
    obtain ⟨j, hj, e⟩ := hM.at_
    obtain rfl : i = j := by omega
    exact absurd e hne
   | m + 2, h0, hm, hk, hx, hN, hM, bx, bY, hi, hw =>
    have := even_row (m := m + 1) hm hn (by omega) h1 (ih (m + 1 + n) (by omega) (m + 1) n rfl (by omega) (by omega) h1 hn) hx hy hM bx bY (i := i) (by omega) hne
    exact Int.le_antisymm hw this
  ·by_cases g' : ∃ j, j < n ∧ ag A m x j ≠ N
   ·obtain ⟨j, hj, hne⟩ := g'
    match n, h1, hn, hk, hy, hN, hM, bx, bY, hj, hw with
    | 1, h1, hn, hk, hy, hN, hM, bx, bY, hj, hw =>
     obtain ⟨i, hi, e⟩ := hN.at_
     obtain rfl : i = j := by omega
     exact absurd e hne
    | n + 2, h1, hn, hk, hy, hN, hM, bx, bY, hj, hw =>
     have := even_row (A := tr A) (m := n + 1) hn hm (by omega) h0 (ih (n + 1 + m) (by omega) (n + 1) m rfl (by omega) (by omega) h0 hm) hy hx (by rw [tr_tr]; exact hN) bY (by rw [tr_tr]; exact bx) (i := j) (by omega) (by rw [tr_tr]; exact hne)
     exact Int.le_antisymm hw (by rw [Int.add_comm]; exact this)
   ·have h2 := ag_pair A m n x y
    rw [sm_congr (f := fun j => y j * ag A m x j) (g := fun j => N * y j) (fun j hj => by
     have : ag A m x j = N := Classical.byContradiction fun h => g' ⟨j, hj, h⟩
     rw [this]; exact Int.mul_comm _ _), sm_congr (f := fun i => x i * ag (tr A) n y i) (g := fun i => M * x i) (fun i hi => by
     have : ag (tr A) n y i = M := Classical.byContradiction fun h => g ⟨i, hi, h⟩
     rw [this]; exact Int.mul_comm _ _), sm_mul, sm_mul] at h2
    exact h2

theorem minimax {m n : Nat} (h0 : 0 < m) (hm : m ≤ 4) (h1 : 0 < n) (hn : n ≤ 4) : Even m n := even_all (m + n) m n rfl h0 hm h1 hn

end Go.Proofs.Ytommhgcgaclflaa.Game
