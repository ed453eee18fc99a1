/- What a piece of memory reads as, and that a call keeps what was there: plain facts on worlds, over no program. -/
import Derived.WalkKit
import Derived.Below
import Derived.Deep.Draws
namespace Go.Proofs.Ytogglbhidlnijaa
set_option linter.unusedVariables false
set_option linter.unusedSimpArgs false
set_option linter.unusedSectionVars false
set_option linter.unnecessarySimpa false
open Go Go.RowKit

/-- The element at an index, 0 beyond the end. (A plain def: simp does not look into it.) -/
def nth (l : List Int) (i : Nat) : Int := l.getD i 0
theorem nth_lt {l : List Int} {i : Nat} (h : i < l.length) : nth l i = l[i] := by simp [nth, h]
theorem nth_nil (i : Nat) : nth [] i = 0 := by simp [nth]
theorem nth_zero (x : Int) (l : List Int) : nth (x :: l) 0 = x := by simp [nth]
theorem nth_succ (x : Int) (l : List Int) (i : Nat) : nth (x :: l) (i + 1) = nth l i := by simp [nth]
theorem nth_ext {l k : List Int} (h : l.length = k.length) (e : ∀ i, i < l.length → nth l i = nth k i) : l = k := by
  refine List.ext_getElem h fun i h1 h2 => ?_
  have := e i h1
  rwa [nth_lt h1, nth_lt h2] at this
theorem nth_append_left {l k : List Int} {i : Nat} (h : i < l.length) : nth (l ++ k) i = nth l i := by
  simp [nth, List.getElem?_append_left h]
theorem nth_append_right {l k : List Int} {i : Nat} (h : l.length ≤ i) : nth (l ++ k) i = nth k (i - l.length) := by
  simp [nth, List.getElem?_append_right h]
theorem nth_map_range (f : Nat → Int) (n i : Nat) (h : i < n) : nth ((List.range n).map f) i = f i := by
  simp [nth, h]

/-- The world 'w'' holds all that 'w' held: no old block has turned. -/
def Ext (w w' : World) : Prop := Below w.heap.size w w'

theorem Ext.refl (w : World) : Ext w w := Below.refl _ w
theorem Ext.below {w w' : World} (h : Ext w w') : Below w.heap.size w w' := h
theorem Ext.size {w w' : World} (h : Ext w w') : w.heap.size ≤ w'.heap.size := Below.size h
theorem Ext.trans {a b c : World} (h : Ext a b) (k : Ext b c) : Ext a c := Below.trans h (Below.mono k (Below.size h))
theorem Ext.drew {a b : World} (h : Ext a b) : Ext a b.drew := Below.drew h
theorem Ext.drewN {a b : World} (h : Ext a b) (n : Nat) : Ext a (b.drewN n) := by have h : Below a.heap.size a b := h; exact ⟨h.os, h.tape, h.output, h.size, h.block⟩
theorem Ext.alloc {a b : World} (h : Ext a b) (o : Obj) : Ext a (b.alloc o) := Below.alloc h (Below.size h) o
theorem Ext.setCell {a b : World} (h : Ext a b) {p : Addr} (hp : a.heap.size ≤ p.block) (u : Value) : Ext a (b.setCell p u) := Below.setCell h hp u
theorem Ext.grown {a b c : World} {row : Option Nat} (h : Ext a b) (hg : b.grownBy c row) (hr : ∀ k, row = some k → a.heap.size ≤ k) : Ext a c :=
  Below.grown h hg (Below.size h) hr

theorem cell_lt {w : World} {p : Addr} {v : Value} (h : w.cell? p = some v) : p.block < w.heap.size := by
  unfold World.cell? at h
  cases e : w.heap[p.block]? with
  | none => simp [e] at h
  | some o =>
    have := Array.getElem?_eq_some_iff.1 e
    exact this.1
theorem Ext.cell {w w' : World} (h : Ext w w') {p : Addr} {v : Value} (hc : w.cell? p = some v) : w'.cell? p = some v :=
  (Below.cell h (cell_lt hc)).trans hc
theorem Ext.frozen {w w' : World} (h : Ext w w') {p : Addr} (hp : p.block < w.heap.size) : w'.frozen? p = w.frozen? p := Below.frozen h hp
theorem Ext.heap {w w' : World} (h : Ext w w') {k : Nat} {o : Obj} (hc : w.heap[k]? = some o) : w'.heap[k]? = some o :=
  (Below.block h k (Array.getElem?_eq_some_iff.1 hc).1).trans hc
theorem lt_of_heap {w : World} {k : Nat} {o : Obj} (hc : w.heap[k]? = some o) : k < w.heap.size := (Array.getElem?_eq_some_iff.1 hc).1

/-- From the address 'a' on lie the 64-bit integers 'l'. -/
def Ints (w : World) (a : Option Addr) (l : List Int) : Prop :=
  ∀ i, i < l.length → ∃ b off, a = some ⟨b, off, none⟩ ∧ w.cell? ⟨b, off + i, none⟩ = some (.int .i64 (nth l i))
theorem Ints.ext {w w' : World} {a : Option Addr} {l : List Int} (h : Ints w a l) (k : Ext w w') : Ints w' a l :=
  fun i hi => let ⟨b, off, ha, hc⟩ := h i hi; ⟨b, off, ha, k.cell hc⟩
theorem Ints.nil (w : World) (a : Option Addr) : Ints w a [] := fun i hi => absurd hi (by simp)
theorem Ints.at {w : World} {a : Option Addr} {l : List Int} (h : Ints w a l) (hl : 0 < l.length) :
    ∃ b off, a = some ⟨b, off, none⟩ ∧ b < w.heap.size ∧ ∀ i, i < l.length → w.cell? ⟨b, off + i, none⟩ = some (.int .i64 (nth l i)) := by
  obtain ⟨b, off, ha, hc⟩ := h 0 hl
  refine ⟨b, off, ha, cell_lt hc, fun i hi => ?_⟩
  obtain ⟨b', off', ha', hc'⟩ := h i hi
  rw [ha] at ha'
  cases ha'
  exact hc'

/-- A fact that is kept from the walk. -/
theorem hid {p : Prop} (h : p) : Hid p := h

/-- What fits 64 bits. -/
def I64 (x : Int) : Prop := -9223372036854775808 ≤ x ∧ x ≤ 9223372036854775807

theorem ret_int {k : IntKind} {a b : Int} (h : a = b) : Ending.returned (.int k a) = .returned (.int k b) := by rw [h]
theorem ret2i {k k' : IntKind} {a b c d : Int} (h : a = c) (h' : b = d) : Ending.returned (.tuple #[.int k a, .int k' b]) = .returned (.tuple #[.int k c, .int k' d]) := by rw [h, h']
theorem ret3i {k k' k'' : IntKind} {a b c d e f : Int} (h : a = d) (h' : b = e) (h'' : c = f) : Ending.returned (.tuple #[.int k a, .int k' b, .int k'' c]) = .returned (.tuple #[.int k d, .int k' e, .int k'' f]) := by rw [h, h', h'']
theorem ret_bool {a b : Bool} (h : a = b) : Ending.returned (.bool a) = .returned (.bool b) := by rw [h]


theorem box3 {w w1 : World} {x y z : Value} {T : TypeId} (h : Ext (w.alloc (.cells #[x, y, z] T)) w1) :
    w1.cell? ⟨w.heap.size, 0, none⟩ = some x ∧ w1.cell? ⟨w.heap.size, 1, none⟩ = some y ∧ w1.cell? ⟨w.heap.size, 2, none⟩ = some z :=
  ⟨h.cell (by simp [go_sem]), h.cell (by simp [go_sem]), h.cell (by simp [go_sem])⟩

/-- The sum of the first so many. -/
def sumTo (f : Nat → Int) : Nat → Int
  | 0 => 0
  | k + 1 => sumTo f k + f k
theorem sumTo_bd (f : Nat → Int) (B : Int) (n : Nat) (h : ∀ i, i < n → 0 ≤ f i ∧ f i ≤ B) : 0 ≤ sumTo f n ∧ sumTo f n ≤ B * n := by
  induction n with
  | zero => simp [sumTo]
  | succ n ih =>
    have := ih fun i hi => h i (by omega)
    have := h n (by omega)
    rw [show B * ((n + 1 : Nat) : Int) = B * n + B by rw [Int.natCast_add, Int.mul_add]; simp]
    simp only [sumTo]; omega
theorem sumTo_congr {f g : Nat → Int} {n : Nat} (h : ∀ i, i < n → f i = g i) : sumTo f n = sumTo g n := by
  induction n with
  | zero => rfl
  | succ n ih => simp only [sumTo]; rw [ih fun i hi => h i (by omega), h n (by omega)]


/-- An element type of one cell that is a 64-bit integer. -/
def ElemI (P : Program) (e : TypeId) : Prop := ∃ i, P.info? e = some i ∧ i.zero = some (.int .i64 0) ∧ i.size = 1 ∧ i.bytes = 8
theorem elemI_mk {P : Program} {e : TypeId} (h : (P.info? e).map (fun i => (i.zero, i.size, i.bytes)) = some (some (.int .i64 0), 1, 8)) : ElemI P e := by
  cases hi : P.info? e with
  | none => simp [hi] at h
  | some i =>
    simp [hi] at h
    exact ⟨i, hi, h.1, h.2.1, h.2.2⟩

/-- The slice value v owns the integers l, in a block from 'base' on. -/
def OwnI (w : World) (base : Nat) (e : TypeId) (v : Value) (l : List Int) : Prop := w.ownsRow base e 1 v l.length (l.map (Value.int .i64))
theorem OwnI.nil (w : World) (base : Nat) (e : TypeId) : OwnI w base e (.slice none 0 0) [] := World.ownsRow_nil w base e 1
theorem OwnI.ext {w w' : World} {base : Nat} {e : TypeId} {v : Value} {l : List Int} (h : OwnI w base e v l) (k : Ext w w') : OwnI w' base e v l :=
  World.ownsRow.kept (row := none) h ⟨Below.os k, Below.tape k, Below.output k, Below.size k, fun i hi _ => Below.block k i hi⟩ (by cases v.ownBlock <;> simp)
theorem OwnI.slice {w : World} {base : Nat} {e : TypeId} {v : Value} {l : List Int} (h : OwnI w base e v l) : ∃ a cap, v = .slice a l.length cap ∧ Ints w a l := by
  rcases h with ⟨h1, ⟨rfl, h2⟩ | ⟨g, cap, cur, rfl, hb, hg, hn, hm, hs, ht⟩⟩
  · obtain rfl : l = [] := List.eq_nil_of_length_eq_zero h2
    exact ⟨none, 0, rfl, Ints.nil _ _⟩
  · refine ⟨_, cap, rfl, fun i hi => ⟨g, 0, rfl, ?_⟩⟩
    have : (cur.toList.take (l.length * 1))[i]? = some (.int .i64 (nth l i)) := by
      rw [ht]; simp [nth, hi]
    rw [List.getElem?_take] at this
    split at this
    · unfold World.cell?
      simp only [hg, Option.isSome_none, Bool.false_eq_true, if_false, Nat.zero_add]
      simpa using this
    · cases this
theorem OwnI.block {w : World} {base : Nat} {e : TypeId} {v : Value} {l : List Int} (h : OwnI w base e v l) : ∀ k, v.ownBlock = some k → base ≤ k ∧ k < w.heap.size := World.ownsRow.lt h

/-- append of one integer to a slice that the call owns. -/
theorem app_int {P : Program} {w : World} {ops : Array Oper} {rest : List Oper} {o : Oper} {a : Act} {Q : Exit → Act → World → Prop} (hgd : o.guard = none) (s x : Operand) (t : TypeId)
    (ho : o.op = .call { callee := .builtin .append, args := #[s, x], argTypes := #[t, t] })
    (e : TypeId) (ht : P.underlying t = some (.slice e)) (he : ElemI P e) (base : Nat) (l : List Int) (y : Int) (v : Value) (hs : a.eval s = v) (ad : Addr) (hx : a.eval x = .slice (some ad) 1 1)
    (hown : OwnI w base e v l) (hc : w.cell? ad = some (.int .i64 y)) (hl : l.length ≤ 1099511627776) (hbase : base ≤ w.heap.size)
    (h : ∀ b cap w', OwnI w' base e (.slice (some ⟨b, 0, none⟩) (l ++ [y]).length cap) (l ++ [y]) → (∀ w0, Ext w0 w → w0.heap.size ≤ base → Ext w0 w') → base ≤ b →
      w.grownBy w' v.ownBlock → wpList P ops Q rest (a.put o.dst (.slice (some ⟨b, 0, none⟩) (l ++ [y]).length cap)) w') : wpList P ops Q (o :: rest) a w := by
  obtain ⟨i, hi, hz, hsz, hby⟩ := he
  refine wpList_append_own w hgd s x t ho base e i (.int .i64 0) 1 8 ht hi hz hsz hby rfl (by decide) v l.length _ hs hown ad 1 1 [.int .i64 y] hx rfl ?_ ?_ ?_ ?_ hbase ?_
  · intro j u hj
    match j, hj with
    | 0, hj => simp at hj; subst hj; simpa [Addr.add] using hc
  · intro u hu
    simp at hu; subst hu; rfl
  · unfold maxLen; omega
  · omega
  · intro v' w' hown' hg hn
    have hv : ¬ v' = .slice none 0 0 := fun e => by have := (hn.1 e).2; simp at this
    rcases hown'.2 with ⟨e1, _⟩ | ⟨g, cap, cur, rfl, hb, r⟩
    · exact absurd e1 hv
    · have e : l.length + 1 = (l ++ [y]).length := by simp
      have e2 : l.map (Value.int .i64) ++ [Value.int .i64 y] = (l ++ [y]).map (Value.int .i64) := by simp
      rw [e, e2] at hown'
      rw [e]
      exact h g cap w' hown' (fun w0 k0 hw0 => Ext.grown k0 hg fun k hk => by have := (OwnI.block hown k hk).1; omega) hb hg


theorem OwnI.made (w : World) {base : Nat} (hb : base ≤ w.heap.size) (e : TypeId) : OwnI (w.alloc (.cells #[] e)) base e (.slice (some ⟨w.heap.size, 0, none⟩) 0 0) [] :=
  World.ownsRow_made w #[] 0 hb (by unfold maxLen; omega) rfl

/-- append of a whole list of integers to a slice that the call owns. -/
theorem appI_wp {P : Program} {w : World} {o : Oper} {a : Act} {K : Act → World → Prop} {Q : Exit → Act → World → Prop} (s x : Operand) (t : TypeId)
    (ho : o.op = .call { callee := .builtin .append, args := #[s, x], argTypes := #[t, t] })
    (e : TypeId) (ht : P.underlying t = some (.slice e)) (he : ElemI P e) (base : Nat) (l k : List Int) (v : Value) (hs : a.eval s = v) (ad : Option Addr) (c : Nat) (hx : a.eval x = .slice ad k.length c)
    (hown : OwnI w base e v l) (hc : Ints w ad k) (hk : 0 < k.length) (hl : l.length + k.length ≤ 1099511627776) (hbase : base ≤ w.heap.size)
    (h : ∀ b cap w', OwnI w' base e (.slice (some ⟨b, 0, none⟩) (l ++ k).length cap) (l ++ k) → (∀ w0, Ext w0 w → w0.heap.size ≤ base → Ext w0 w') → base ≤ b →
      K (a.put o.dst (.slice (some ⟨b, 0, none⟩) (l ++ k).length cap)) w') : o.wp P a w K Q := by
  obtain ⟨i, hi, hz, hsz, hby⟩ := he
  obtain ⟨b0, off0, rfl, _, hcell⟩ := hc.at hk
  refine wp_append_own w s x t ho base e i (.int .i64 0) 1 8 ht hi hz hsz hby rfl (by decide) v l.length _ hs hown _ k.length c (k.map (Value.int .i64)) hx (by simp) ?_ ?_ ?_ ?_ hbase ?_
  · intro j u hj
    simp only [List.getElem?_map, Option.map_eq_some_iff] at hj
    obtain ⟨z, hz, rfl⟩ := hj
    obtain ⟨hj, rfl⟩ := List.getElem?_eq_some_iff.1 hz
    have := hcell j hj
    rw [nth_lt hj] at this
    rw [← this]
    unfold Addr.add
    split
    · rename_i h0; subst h0; rfl
    · rfl
  · intro u hu
    simp at hu
    obtain ⟨z, _, rfl⟩ := hu
    rfl
  · unfold maxLen; omega
  · omega
  · intro v' w' hown' hg hn
    have hv : ¬ v' = .slice none 0 0 := fun e => by have := (hn.1 e).2; omega
    rcases hown'.2 with ⟨e1, _⟩ | ⟨g, cap, cur, rfl, hb, r⟩
    · exact absurd e1 hv
    · have e : l.length + k.length = (l ++ k).length := by simp
      have e2 : l.map (Value.int .i64) ++ k.map (Value.int .i64) = (l ++ k).map (Value.int .i64) := by simp
      rw [e, e2] at hown'
      rw [e]
      exact h g cap w' hown' (fun w0 k0 hw0 => Ext.grown k0 hg fun k hk => by have := (OwnI.block hown k hk).1; omega) hb

/-- A store into a slice that the call owns. -/
theorem OwnI.set {w : World} {base : Nat} {e : TypeId} {b cap : Nat} {l : List Int} (h : OwnI w base e (.slice (some ⟨b, 0, none⟩) l.length cap) l) {i : Nat} (y : Int) :
    OwnI (w.setCell ⟨b, i, none⟩ (.int .i64 y)) base e (.slice (some ⟨b, 0, none⟩) (l.set i y).length cap) (l.set i y) := by
  obtain ⟨h1, h2 | ⟨g, cap', cur, hv, hb, hg, hn, hm, hs, ht⟩⟩ := h
  · simp at h2
  · cases hv
    refine ⟨by simp, .inr ⟨b, cap, cur.setIfInBounds i (.int .i64 y), by simp, hb, ?_, by simpa using hn, hm, by simpa using hs, ?_⟩⟩
    · simp only [World.setCell]
      rw [Array.getElem?_modify]
      simp [hg]
    · simp only [Nat.mul_one] at ht ⊢
      rw [List.length_set, Array.toList_setIfInBounds, List.map_set, ← ht, List.take_set]


/-- append to a slice without room for anything (nil, or empty) makes a new row. -/
theorem appFresh_wp {P : Program} {w : World} {o : Oper} {a : Act} {K : Act → World → Prop} {Q : Exit → Act → World → Prop} (s x : Operand) (t : TypeId)
    (ho : o.op = .call { callee := .builtin .append, args := #[s, x], argTypes := #[t, t] })
    (e : TypeId) (i : TypeInfo) (z : Value) (size bytes : Nat) (ht : P.underlying t = some (.slice e)) (hi : P.info? e = some i) (hz : i.zero = some z)
    (hsize : i.size = size) (hby : i.bytes = bytes) (hzs : z.cells.size = size) (ad0 : Option Addr) (hs : a.eval s = .slice ad0 0 0)
    (ad : Addr) (m c : Nat) (news : List Value) (hx : a.eval x = .slice (some ad) m c) (hl : news.length = m * size) (hnews : ∀ j u, news[j]? = some u → w.cell? (ad.add j) = some u)
    (hm : 0 < m) (h63 : m ≤ maxLen) (hbytes : m * bytes ≤ 140737488355328)
    (h : ∀ cap w', w'.ownsRow w.heap.size e size (.slice (some ⟨w.heap.size, 0, none⟩) m cap) m news → Ext w w' →
      K (a.put o.dst (.slice (some ⟨w.heap.size, 0, none⟩) m cap)) w') : o.wp P a w K Q := by
  subst hsize
  subst hby
  have hsmall : m ≤ 9223372036854775807 := by simp only [maxLen] at h63; omega
  have hge := grownCap_ge w m 0 e
  have hcm : grownCap w m 0 e ≤ maxLen := grownCap_le_maxLen w m 0 e h63
  have hr : (Builtin.append_ #[t, t] o.type #[.slice ad0 0 0, .slice (some ad) m c]).run P w =
      .ok (.slice (some ⟨w.heap.size, 0, none⟩) m (grownCap w m 0 e)) (w.drew.alloc (.cells (news.toArray ++ Builtin.zeroCells z.cells (grownCap w m 0 e - m)) e)) := by
    cases ad0 with
    | none => exact run_append_nil (P := P) w t o.type e i z ht hi hz ad m c news hl hnews hm (by omega) (by omega)
    | some b =>
      have := run_append_grow (P := P) w t o.type e i z ht hi hz b 0 0 [] (by simp) (by simp) ad m c news hl hnews (by omega) (by omega) (growslice_fits (by omega) (by simpa using hbytes))
      simpa using this
  unfold Oper.wp execOp
  simp only [ho, resolve, invoke, builtin, Sem.run_bind, Sem.run_pure, Result.andThen_ok, List.map_toArray, List.map_cons, List.map_nil, hs, hx, hr]
  refine h _ _ ⟨hl, .inr ⟨w.heap.size, _, _, rfl, Nat.le_refl _, heap_alloc_new w.drew _, hge, hcm, ?_, ?_⟩⟩ ((Ext.refl w).drew.alloc _)
  · simp only [Array.size_append, List.size_toArray, size_zeroCells, hzs, hl, ← Nat.add_mul]
    congr 1
    omega
  · simp only [Array.toList_append]
    rw [← hl]
    exact List.take_left

/-- The same, of integers. -/
theorem appFreshI_wp {P : Program} {w : World} {o : Oper} {a : Act} {K : Act → World → Prop} {Q : Exit → Act → World → Prop} (s x : Operand) (t : TypeId)
    (ho : o.op = .call { callee := .builtin .append, args := #[s, x], argTypes := #[t, t] })
    (e : TypeId) (ht : P.underlying t = some (.slice e)) (he : ElemI P e) (k : List Int) (ad0 : Option Addr) (hs : a.eval s = .slice ad0 0 0) (ad : Option Addr) (c : Nat) (hx : a.eval x = .slice ad k.length c)
    (hc : Ints w ad k) (hk : 0 < k.length) (hl : k.length ≤ 1099511627776)
    (h : ∀ cap w', OwnI w' w.heap.size e (.slice (some ⟨w.heap.size, 0, none⟩) k.length cap) k → Ext w w' →
      K (a.put o.dst (.slice (some ⟨w.heap.size, 0, none⟩) k.length cap)) w') : o.wp P a w K Q := by
  obtain ⟨i, hi, hz, hsz, hby⟩ := he
  obtain ⟨b0, off0, rfl, _, hcell⟩ := hc.at hk
  refine appFresh_wp s x t ho e i (.int .i64 0) 1 8 ht hi hz hsz hby rfl ad0 hs _ k.length c (k.map (Value.int .i64)) hx (by simp) ?_ hk (by unfold maxLen; omega) (by omega) h
  intro j u hj
  simp only [List.getElem?_map, Option.map_eq_some_iff] at hj
  obtain ⟨z, hz, rfl⟩ := hj
  obtain ⟨hj, rfl⟩ := List.getElem?_eq_some_iff.1 hz
  have := hcell j hj
  rw [nth_lt hj] at this
  rw [← this]
  unfold Addr.add
  split
  · rename_i h0; subst h0; rfl
  · rfl


/-- What was there reads as it did: as rules for the walk. -/
theorem Ext.rules {w w' : World} (h : Ext w w') : (∀ b o, b < w.heap.size → w'.cell? ⟨b, o, none⟩ = w.cell? ⟨b, o, none⟩) ∧ (∀ b o, b < w.heap.size → w'.frozen? ⟨b, o, none⟩ = w.frozen? ⟨b, o, none⟩) ∧ w.heap.size ≤ w'.heap.size :=
  ⟨fun _ _ hb => Below.cell h hb, fun _ _ hb => Below.frozen h hb, Below.size h⟩


theorem OwnI.facts {w : World} {base : Nat} {e : TypeId} {b n cap : Nat} {l : List Int} (h : OwnI w base e (.slice (some ⟨b, 0, none⟩) n cap) l) {j : Nat} (hj : j < l.length) :
    w.cell? ⟨b, j, none⟩ = some (.int .i64 (nth l j)) ∧ w.frozen? ⟨b, j, none⟩ = false ∧ n = l.length ∧ b < w.heap.size := by
  obtain ⟨a, cp, hv, hi⟩ := h.slice
  cases hv
  obtain ⟨b', off, e, hc⟩ := hi j hj
  cases e
  obtain ⟨h1, h2 | ⟨g, cap', cur, hv, hb, hg, r⟩⟩ := h
  · simp at h2
  · cases hv
    exact ⟨by simpa using hc, by simp [World.frozen?, hg], rfl, lt_of_heap hg⟩


theorem Ints.put {w : World} {b off : Nat} {l : List Int} (h : Ints w (some ⟨b, off, none⟩) l) {p : Addr} (hne : p.block ≠ b) (v : Value) : Ints (w.setCell p v) (some ⟨b, off, none⟩) l := by
  intro i hi
  obtain ⟨b', off', e, hc⟩ := h i hi
  cases e
  refine ⟨b, off, rfl, ?_⟩
  rw [← hc]
  exact World.cell?_of_block (Below.heap_setCell w p v b (Ne.symm hne))

theorem Ints.alloc {w : World} {a : Option Addr} {l : List Int} (h : Ints w a l) (o : Obj) : Ints (w.alloc o) a l := h.ext ((Ext.refl w).alloc o)
theorem Ints.drew {w : World} {a : Option Addr} {l : List Int} (h : Ints w a l) : Ints w.drew a l := h.ext (Ext.refl w).drew

theorem OwnI.put {w : World} {base : Nat} {e : TypeId} {b n cap : Nat} {l : List Int} (h : OwnI w base e (.slice (some ⟨b, 0, none⟩) n cap) l) {p : Addr} (hne : p.block ≠ b) (v : Value) :
    OwnI (w.setCell p v) base e (.slice (some ⟨b, 0, none⟩) n cap) l := by
  obtain ⟨h1, h2 | ⟨g, cap', cur, hv, hb, hg, r⟩⟩ := h
  · simp at h2
  · cases hv
    exact ⟨h1, .inr ⟨b, cap, cur, rfl, hb, (Below.heap_setCell w p v b (Ne.symm hne)).trans hg, r⟩⟩


theorem ints_row {w : World} {g : Nat} {arr : Array Value} {e : TypeId} {l : List Int} (hg : w.heap[g]? = some (.cells arr e (0, 0))) (h : ∀ i, i < l.length → arr[i]? = some (.int .i64 (nth l i))) : Ints w (some ⟨g, 0, none⟩) l := by
  intro i hi
  refine ⟨g, 0, rfl, ?_⟩
  unfold World.cell?
  simp only [hg, Option.isSome_none, Bool.false_eq_true, if_false, Nat.zero_add]
  exact h i hi
theorem Ext.setRow {a b : World} (h : Ext a b) {g : Nat} (hg : a.heap.size ≤ g) (cs : Array Value) : Ext a (b.setRow g cs) :=
  Below.trans h ⟨rfl, rfl, rfl, by simp, fun k hk => setRow_other b g k cs (by omega)⟩


theorem OwnI.mono {w : World} {base base' : Nat} {e : TypeId} {v : Value} {l : List Int} (h : OwnI w base e v l) (hb : base' ≤ base) : OwnI w base' e v l := by
  obtain ⟨h1, h2 | ⟨g, cap', cur, hv, hg, r⟩⟩ := h
  · exact ⟨h1, .inl h2⟩
  · exact ⟨h1, .inr ⟨g, cap', cur, hv, by omega, r⟩⟩

end Go.Proofs.Ytogglbhidlnijaa
