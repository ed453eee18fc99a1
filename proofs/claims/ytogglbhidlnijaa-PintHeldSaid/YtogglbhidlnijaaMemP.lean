/- Slices of pairs of integers (two cells an element): what they read as; append. Over no program. -/
import Derived.Test.YtogglbhidlnijaaMem
namespace Go.Proofs.Ytogglbhidlnijaa
set_option linter.unusedVariables false
set_option linter.unusedSimpArgs false
set_option linter.unusedSectionVars false
set_option linter.unnecessarySimpa false
open Go Go.RowKit

/-- The first, and the second, number of the pair at an index. -/
def pa (l : List (Int × Int)) (i : Nat) : Int := (l.getD i (0, 0)).1
def pb (l : List (Int × Int)) (i : Nat) : Int := (l.getD i (0, 0)).2
theorem pa_lt {l : List (Int × Int)} {i : Nat} (h : i < l.length) : pa l i = l[i].1 := by simp [pa, h]
theorem pb_lt {l : List (Int × Int)} {i : Nat} (h : i < l.length) : pb l i = l[i].2 := by simp [pb, h]
theorem pab_lt {l : List (Int × Int)} {i : Nat} (h : i < l.length) : l[i] = (pa l i, pb l i) := by rw [pa_lt h, pb_lt h]

/-- From the address 'a' on lie the pairs 'l'. -/
def Prs (w : World) (a : Option Addr) (l : List (Int × Int)) : Prop :=
  ∀ i, i < l.length → ∃ b off, a = some ⟨b, off, none⟩ ∧ w.cell? ⟨b, off + i * 2, none⟩ = some (.int .i64 (pa l i)) ∧ w.cell? ⟨b, off + i * 2 + 1, none⟩ = some (.int .i64 (pb l i))
theorem Prs.ext {w w' : World} {a : Option Addr} {l : List (Int × Int)} (h : Prs w a l) (k : Ext w w') : Prs w' a l :=
  fun i hi => let ⟨b, off, ha, hc, hd⟩ := h i hi; ⟨b, off, ha, k.cell hc, k.cell hd⟩
theorem Prs.nil (w : World) (a : Option Addr) : Prs w a [] := fun i hi => absurd hi (by simp)
theorem Prs.at {w : World} {a : Option Addr} {l : List (Int × Int)} (h : Prs w a l) (hl : 0 < l.length) :
    ∃ b off, a = some ⟨b, off, none⟩ ∧ b < w.heap.size ∧ ∀ i, i < l.length → w.cell? ⟨b, off + i * 2, none⟩ = some (.int .i64 (pa l i)) ∧ w.cell? ⟨b, off + i * 2 + 1, none⟩ = some (.int .i64 (pb l i)) := by
  obtain ⟨b, off, ha, hc, _⟩ := h 0 hl
  refine ⟨b, off, ha, cell_lt hc, fun i hi => ?_⟩
  obtain ⟨b', off', ha', hc'⟩ := h i hi
  rw [ha] at ha'
  cases ha'
  exact hc'

/-- The cells of pairs. -/
def cellsP : List (Int × Int) → List Value
  | [] => []
  | p :: l => .int .i64 p.1 :: .int .i64 p.2 :: cellsP l
theorem cellsP_len (l : List (Int × Int)) : (cellsP l).length = l.length * 2 := by induction l <;> simp [cellsP, *]; omega
theorem cellsP_append (l k : List (Int × Int)) : cellsP (l ++ k) = cellsP l ++ cellsP k := by induction l <;> simp [cellsP, *]
theorem cellsP_get (l : List (Int × Int)) : ∀ i, i < l.length → (cellsP l)[i * 2]? = some (.int .i64 (pa l i)) ∧ (cellsP l)[i * 2 + 1]? = some (.int .i64 (pb l i)) := by
  induction l with
  | nil => intro i hi; simp at hi
  | cons p l ih =>
    intro i hi
    cases i with
    | zero => simp [cellsP, pa, pb]
    | succ i =>
      have := ih i (by simpa using hi)
      rw [show (i + 1) * 2 = i * 2 + 1 + 1 by omega]
      simpa [cellsP, pa, pb] using this

/-- The slice value v owns the pairs l, in a block from 'base' on. -/
def OwnP (w : World) (base : Nat) (e : TypeId) (v : Value) (l : List (Int × Int)) : Prop := w.ownsRow base e 2 v l.length (cellsP l)
theorem OwnP.nil (w : World) (base : Nat) (e : TypeId) : OwnP w base e (.slice none 0 0) [] := World.ownsRow_nil w base e 2
theorem OwnP.ext {w w' : World} {base : Nat} {e : TypeId} {v : Value} {l : List (Int × Int)} (h : OwnP w base e v l) (k : Ext w w') : OwnP w' base e v l :=
  World.ownsRow.kept (row := none) h ⟨Below.os k, Below.tape k, Below.output k, Below.size k, fun i hi _ => Below.block k i hi⟩ (by cases v.ownBlock <;> simp)
theorem OwnP.block {w : World} {base : Nat} {e : TypeId} {v : Value} {l : List (Int × Int)} (h : OwnP w base e v l) : ∀ k, v.ownBlock = some k → base ≤ k ∧ k < w.heap.size := World.ownsRow.lt h
theorem row_cell {w : World} {g : Nat} {cur : Array Value} {e : TypeId} {n : Nat} {xs : List Value} (hg : w.heap[g]? = some (.cells cur e (0, 0))) (ht : cur.toList.take n = xs) {j : Nat} {u : Value} (hj : xs[j]? = some u) :
    w.cell? ⟨g, j, none⟩ = some u := by
  rw [← ht, List.getElem?_take] at hj
  split at hj
  · unfold World.cell?
    simp only [hg, Option.isSome_none, Bool.false_eq_true, if_false]
    simpa using hj
  · cases hj
theorem OwnP.slice {w : World} {base : Nat} {e : TypeId} {v : Value} {l : List (Int × Int)} (h : OwnP w base e v l) : ∃ a cap, v = .slice a l.length cap ∧ l.length ≤ cap ∧ Prs w a l := by
  rcases h with ⟨h1, ⟨rfl, h2⟩ | ⟨g, cap, cur, rfl, hb, hg, hn, hm, hs, ht⟩⟩
  · obtain rfl : l = [] := List.eq_nil_of_length_eq_zero h2
    exact ⟨none, 0, rfl, Nat.le_refl _, Prs.nil _ _⟩
  · refine ⟨_, cap, rfl, hn, fun i hi => ⟨g, 0, rfl, ?_, ?_⟩⟩
    · rw [Nat.zero_add]; exact row_cell hg ht (cellsP_get l i hi).1
    · rw [Nat.zero_add]; exact row_cell hg ht (cellsP_get l i hi).2
theorem OwnP.facts {w : World} {base : Nat} {e : TypeId} {b n cap : Nat} {l : List (Int × Int)} (h : OwnP w base e (.slice (some ⟨b, 0, none⟩) n cap) l) {j : Nat} (hj : j < l.length) :
    w.cell? ⟨b, j * 2, none⟩ = some (.int .i64 (pa l j)) ∧ w.cell? ⟨b, j * 2 + 1, none⟩ = some (.int .i64 (pb l j)) ∧ w.frozen? ⟨b, j * 2, none⟩ = false ∧ w.frozen? ⟨b, j * 2 + 1, none⟩ = false ∧ n = l.length ∧ b < w.heap.size := by
  obtain ⟨h1, h2 | ⟨g, cap', cur, hv, hb, hg, hn, hm, hs, ht⟩⟩ := h
  · simp at h2
  · cases hv
    exact ⟨row_cell hg ht (cellsP_get l j hj).1, row_cell hg ht (cellsP_get l j hj).2, by simp [World.frozen?, hg], by simp [World.frozen?, hg], rfl, lt_of_heap hg⟩

theorem OwnP.addr {w : World} {base : Nat} {e : TypeId} {v : Value} {l : List (Int × Int)} (h : OwnP w base e v l) (hl : 0 < l.length) : ∃ b cap, v = .slice (some ⟨b, 0, none⟩) l.length cap ∧ base ≤ b ∧ b < w.heap.size ∧ l.length ≤ cap := by
  obtain ⟨h1, ⟨_, h2⟩ | ⟨g, cap', cur, hv, hb, hg, hn, hm, hs, ht⟩⟩ := h
  · omega
  · exact ⟨g, cap', hv, hb, lt_of_heap hg, hn⟩

/-- An element type of two cells that are 64-bit integers. -/
def ElemP (P : Program) (e : TypeId) : Prop := ∃ i z, P.info? e = some i ∧ i.zero = some z ∧ z.cells.size = 2 ∧ i.size = 2 ∧ i.bytes = 16
theorem elemP_mk {P : Program} {e : TypeId} (h : (P.info? e).map (fun i => (i.zero, i.size, i.bytes)) = some (some (.agg #[.int .i64 0, .int .i64 0]), 2, 16)) : ElemP P e := by
  cases hi : P.info? e with
  | none => simp [hi] at h
  | some i =>
    simp [hi] at h
    exact ⟨i, _, hi, h.1, rfl, h.2.1, h.2.2⟩

/-- append of one pair to a slice that the call owns. -/
theorem app_pair {P : Program} {w : World} {ops : Array Oper} {rest : List Oper} {o : Oper} {a : Act} {Q : Exit → Act → World → Prop} (hgd : o.guard = none) (s x : Operand) (t : TypeId)
    (ho : o.op = .call { callee := .builtin .append, args := #[s, x], argTypes := #[t, t] })
    (e : TypeId) (ht : P.underlying t = some (.slice e)) (he : ElemP P e) (base : Nat) (l : List (Int × Int)) (y : Int × Int) (v : Value) (hs : a.eval s = v) (b0 : Nat) (hx : a.eval x = .slice (some ⟨b0, 0, none⟩) 1 1)
    (hown : OwnP w base e v l) (hc : w.cell? ⟨b0, 0, none⟩ = some (.int .i64 y.1)) (hd : w.cell? ⟨b0, 1, none⟩ = some (.int .i64 y.2)) (hl : l.length ≤ 1099511627776) (hbase : base ≤ w.heap.size)
    (h : ∀ b cap w', OwnP w' base e (.slice (some ⟨b, 0, none⟩) (l ++ [y]).length cap) (l ++ [y]) → (∀ w0, Ext w0 w → w0.heap.size ≤ base → Ext w0 w') → base ≤ b →
      wpList P ops Q rest (a.put o.dst (.slice (some ⟨b, 0, none⟩) (l ++ [y]).length cap)) w') : wpList P ops Q (o :: rest) a w := by
  obtain ⟨i, z, hi, hz, hzs, hsz, hby⟩ := he
  refine wpList_append_own w hgd s x t ho base e i z 2 16 ht hi hz hsz hby hzs (by decide) v l.length _ hs hown _ 1 1 [.int .i64 y.1, .int .i64 y.2] hx rfl ?_ ?_ ?_ ?_ hbase ?_
  · intro j u hj
    match j, hj with
    | 0, hj => simp at hj; subst hj; simpa [Addr.add] using hc
    | 1, hj => simp at hj; subst hj; simpa [Addr.add] using hd
  · intro u hu
    simp at hu; rcases hu with rfl | rfl <;> rfl
  · unfold maxLen; omega
  · omega
  · intro v' w' hown' hg hn
    have hv : ¬ v' = .slice none 0 0 := fun e => by have := (hn.1 e).2; simp at this
    rcases hown'.2 with ⟨e1, _⟩ | ⟨g, cap, cur, rfl, hb, r⟩
    · exact absurd e1 hv
    · have e : l.length + 1 = (l ++ [y]).length := by simp
      have e2 : cellsP l ++ [Value.int .i64 y.1, .int .i64 y.2] = cellsP (l ++ [y]) := by rw [cellsP_append]; rfl
      rw [e, e2] at hown'
      rw [e]
      exact h g cap w' hown' (fun w0 k0 hw0 => Ext.grown k0 hg fun k hk => by have := (OwnP.block hown k hk).1; omega) hb

/-- append to a slice that is full (its capacity is its length; nil and empty ones too) makes a new row. -/
theorem appFull_wp {P : Program} {w : World} {o : Oper} {a : Act} {K : Act → World → Prop} {Q : Exit → Act → World → Prop} (s x : Operand) (t : TypeId)
    (ho : o.op = .call { callee := .builtin .append, args := #[s, x], argTypes := #[t, t] })
    (e : TypeId) (i : TypeInfo) (z : Value) (size bytes : Nat) (ht : P.underlying t = some (.slice e)) (hi : P.info? e = some i) (hz : i.zero = some z)
    (hsize : i.size = size) (hby : i.bytes = bytes) (hzs : z.cells.size = size) (ad0 : Option Addr) (n : Nat) (hs : a.eval s = .slice ad0 n n) (h0 : n = 0 ∨ ∃ b, ad0 = some b)
    (olds : List Value) (hlo : olds.length = n * size) (holds : ∀ j v, olds[j]? = some v → ∃ b, ad0 = some b ∧ w.cell? (b.add j) = some v)
    (ad : Addr) (m c : Nat) (news : List Value) (hx : a.eval x = .slice (some ad) m c) (hl : news.length = m * size) (hnews : ∀ j u, news[j]? = some u → w.cell? (ad.add j) = some u)
    (hm : 0 < m) (h63 : n + m ≤ maxLen) (hbytes : (n + m) * bytes ≤ 140737488355328)
    (h : ∀ cap w', w'.ownsRow w.heap.size e size (.slice (some ⟨w.heap.size, 0, none⟩) (n + m) cap) (n + m) (olds ++ news) → Ext w w' →
      K (a.put o.dst (.slice (some ⟨w.heap.size, 0, none⟩) (n + m) cap)) w') : o.wp P a w K Q := by
  subst hsize
  subst hby
  have hsmall : n + m ≤ 9223372036854775807 := by simp only [maxLen] at h63; omega
  have hge := grownCap_ge w (n + m) n e
  have hcm : grownCap w (n + m) n e ≤ maxLen := grownCap_le_maxLen w (n + m) n e h63
  have hr : (Builtin.append_ #[t, t] o.type #[.slice ad0 n n, .slice (some ad) m c]).run P w =
      .ok (.slice (some ⟨w.heap.size, 0, none⟩) (n + m) (grownCap w (n + m) n e)) (w.drew.alloc (.cells (olds.toArray ++ news.toArray ++ Builtin.zeroCells z.cells (grownCap w (n + m) n e - (n + m))) e)) := by
    cases ad0 with
    | none =>
      obtain rfl : n = 0 := by rcases h0 with h0 | ⟨b, hb⟩; exact h0; cases hb
      obtain rfl : olds = [] := List.eq_nil_of_length_eq_zero (by simpa using hlo)
      have := run_append_nil (P := P) w t o.type e i z ht hi hz ad m c news hl hnews hm (by omega) (by rw [Nat.zero_add] at hbytes; omega)
      simpa using this
    | some b =>
      exact run_append_grow (P := P) w t o.type e i z ht hi hz b n n olds hlo (fun j v hv => by obtain ⟨b', hb, hc⟩ := holds j v hv; cases hb; exact hc) ad m c news hl hnews (by omega) (by omega) (growslice_fits (by omega) hbytes)
  unfold Oper.wp execOp
  simp only [ho, resolve, invoke, builtin, Sem.run_bind, Sem.run_pure, Result.andThen_ok, List.map_toArray, List.map_cons, List.map_nil, hs, hx, hr]
  refine h _ _ ⟨by rw [List.length_append, hlo, hl, Nat.add_mul], .inr ⟨w.heap.size, _, _, rfl, Nat.le_refl _, heap_alloc_new w.drew _, hge, hcm, ?_, ?_⟩⟩ ((Ext.refl w).drew.alloc _)
  · simp only [Array.size_append, List.size_toArray, size_zeroCells, hzs, hlo, hl, ← Nat.add_mul]
    congr 1
    omega
  · simp only [Array.toList_append, List.append_assoc]
    rw [← List.append_assoc, Nat.add_mul, ← hlo, ← hl, ← List.length_append]
    exact List.take_left


theorem cellsP_set (l : List (Int × Int)) : ∀ j y, j < l.length → cellsP (l.set j (pa l j, y)) = (cellsP l).set (j * 2 + 1) (.int .i64 y) := by
  induction l with
  | nil => intro j y hj; simp at hj
  | cons p l ih =>
    intro j y hj
    cases j with
    | zero => simp [cellsP, pa]
    | succ j =>
      have := ih j y (by simpa using hj)
      rw [show (j + 1) * 2 + 1 = j * 2 + 1 + 1 + 1 by omega]
      simpa [cellsP, pa] using this
/-- A store into the second number of a pair that the call owns. -/
theorem OwnP.set2 {w : World} {base : Nat} {e : TypeId} {b n cap : Nat} {l : List (Int × Int)} (h : OwnP w base e (.slice (some ⟨b, 0, none⟩) n cap) l) {j : Nat} (hj : j < l.length) (y : Int) :
    OwnP (w.setCell ⟨b, j * 2 + 1, none⟩ (.int .i64 y)) base e (.slice (some ⟨b, 0, none⟩) n cap) (l.set j (pa l j, y)) := by
  obtain ⟨h1, h2 | ⟨g, cap', cur, hv, hb, hg, hn, hm, hs, ht⟩⟩ := h
  · simp at h2
  · cases hv
    refine ⟨by rw [cellsP_len], .inr ⟨b, cap, cur.setIfInBounds (j * 2 + 1) (.int .i64 y), by simp, hb, ?_, by simpa using hn, hm, by simpa using hs, ?_⟩⟩
    · simp only [World.setCell]
      rw [Array.getElem?_modify]
      simp [hg]
    · rw [List.length_set, Array.toList_setIfInBounds, cellsP_set l j y hj, ← ht, List.take_set]
theorem OwnP.setExt {w : World} {base : Nat} {e : TypeId} {b n cap : Nat} {l : List (Int × Int)} (h : OwnP w base e (.slice (some ⟨b, 0, none⟩) n cap) l) {w0 : World} (k : Ext w0 w) (hb : w0.heap.size ≤ base) (j : Nat) (v : Value) :
    Ext w0 (w.setCell ⟨b, j, none⟩ v) := k.setCell (by have := (OwnP.block h b rfl).1; simp; omega) v


theorem new20 {w : World} {x y : Value} {t : TypeId} {n : Nat} (h : n = w.heap.size) : (w.alloc (.cells #[x, y] t)).cell? ⟨n, 0, none⟩ = some x := by subst h; simp [go_sem]
theorem new21 {w : World} {x y : Value} {t : TypeId} {n : Nat} (h : n = w.heap.size) : (w.alloc (.cells #[x, y] t)).cell? ⟨n, 1, none⟩ = some y := by subst h; simp [go_sem]


theorem OwnP.mono {w : World} {base base' : Nat} {e : TypeId} {v : Value} {l : List (Int × Int)} (h : OwnP w base e v l) (hb : base' ≤ base) : OwnP w base' e v l := by
  obtain ⟨h1, h2 | ⟨g, cap', cur, hv, hg, r⟩⟩ := h
  · exact ⟨h1, .inl h2⟩
  · exact ⟨h1, .inr ⟨g, cap', cur, hv, by omega, r⟩⟩

/-- append of one pair to a slice that is full: a new row. -/
theorem app_pair_full {P : Program} {w : World} {ops : Array Oper} {rest : List Oper} {o : Oper} {a : Act} {Q : Exit → Act → World → Prop} (hgd : o.guard = none) (s x : Operand) (t : TypeId)
    (ho : o.op = .call { callee := .builtin .append, args := #[s, x], argTypes := #[t, t] })
    (e : TypeId) (ht : P.underlying t = some (.slice e)) (he : ElemP P e) (l : List (Int × Int)) (y : Int × Int) (ad : Option Addr) (hs : a.eval s = .slice ad l.length l.length) (b0 : Nat) (hx : a.eval x = .slice (some ⟨b0, 0, none⟩) 1 1)
    (hP : Prs w ad l) (hc : w.cell? ⟨b0, 0, none⟩ = some (.int .i64 y.1)) (hd : w.cell? ⟨b0, 1, none⟩ = some (.int .i64 y.2)) (hl : l.length ≤ 1099511627776)
    (h : ∀ cap w', OwnP w' w.heap.size e (.slice (some ⟨w.heap.size, 0, none⟩) (l ++ [y]).length cap) (l ++ [y]) → Ext w w' →
      wpList P ops Q rest (a.put o.dst (.slice (some ⟨w.heap.size, 0, none⟩) (l ++ [y]).length cap)) w') : wpList P ops Q (o :: rest) a w := by
  obtain ⟨i, z, hi, hz, hzs, hsz, hby⟩ := he
  refine wpList_plain hgd fun K hK => appFull_wp s x t ho e i z 2 16 ht hi hz hsz hby hzs ad l.length hs ?_ (cellsP l) (cellsP_len l) ?_ _ 1 1 [.int .i64 y.1, .int .i64 y.2] hx rfl ?_ (by omega) (by unfold maxLen; omega) (by omega) fun cap w' ho' hE => ?_
  · rcases Nat.eq_zero_or_pos l.length with h0 | h0
    · exact .inl h0
    · obtain ⟨b, off, hb, _⟩ := hP 0 h0
      exact .inr ⟨_, hb⟩
  · intro j v hj
    have hj2 : j < l.length * 2 := by rw [← cellsP_len]; exact (List.getElem?_eq_some_iff.1 hj).1
    obtain ⟨b, off, hb, h1, h2⟩ := hP (j / 2) (by omega)
    refine ⟨_, hb, ?_⟩
    obtain ⟨g1, g2⟩ := cellsP_get l (j / 2) (by omega)
    have hadd : ∀ k, (⟨b, off, none⟩ : Addr).add k = ⟨b, off + k, none⟩ := by intro k; unfold Addr.add; split <;> simp_all
    rw [hadd]
    rcases Nat.mod_two_eq_zero_or_one j with hm | hm
    · rw [show j = j / 2 * 2 by omega] at hj ⊢
      rw [g1] at hj; cases hj
      exact h1
    · rw [show j = j / 2 * 2 + 1 by omega] at hj ⊢
      rw [g2] at hj; cases hj
      rw [← Nat.add_assoc]; exact h2
  · intro j u hj
    match j, hj with
    | 0, hj => simp at hj; subst hj; simpa [Addr.add] using hc
    | 1, hj => simp at hj; subst hj; simpa [Addr.add] using hd
  · have e1 : l.length + 1 = (l ++ [y]).length := by simp
    have e2 : cellsP l ++ [Value.int .i64 y.1, .int .i64 y.2] = cellsP (l ++ [y]) := by rw [cellsP_append]; rfl
    rw [e1, e2] at ho'
    have := hK _ _ (h cap w' ho' hE)
    rwa [← e1] at this

end Go.Proofs.Ytogglbhidlnijaa
