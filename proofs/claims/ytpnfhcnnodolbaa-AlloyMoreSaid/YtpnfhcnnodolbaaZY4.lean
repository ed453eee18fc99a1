/- Texts of one proof, laid together: MemR. -/
import Derived.Test.YtpnfhcnnodolbaaZY2
import Derived.Maps.AppendAt
set_option linter.unusedVariables false
set_option linter.unusedSimpArgs false
set_option linter.unusedSectionVars false
set_option linter.unnecessarySimpa false
namespace Go.Proofs.Ytpnfhcnnodolbaa
open Go Go.RowKit
def cellsG (k : Nat) (f : Nat → Nat → Value) (n : Nat) : List Value := (List.range (n * k)).map fun j => f (j / k) (j % k)
theorem cellsG_len (k : Nat) (f : Nat → Nat → Value) (n : Nat) : (cellsG k f n).length = n * k := by simp [cellsG]
theorem at_lt {k n i r : Nat} (hi : i < n) (hr : r < k) : i * k + r < n * k := by
 have : (i + 1) * k ≤ n * k := Nat.mul_le_mul_right k hi
 rw [Nat.add_mul] at this
 omega
theorem at_div {k i r : Nat} (hr : r < k) : (i * k + r) / k = i := by
 rw [Nat.mul_comm, Nat.mul_add_div (by omega), Nat.div_eq_of_lt hr]; rfl
theorem at_mod {k i r : Nat} (hr : r < k) : (i * k + r) % k = r := by
 rw [Nat.mul_comm, Nat.mul_add_mod, Nat.mod_eq_of_lt hr]
theorem cellsG_at {k n : Nat} (f : Nat → Nat → Value) {j : Nat} (h : j < n * k) : (cellsG k f n)[j]? = some (f (j / k) (j % k)) := by
 simp [cellsG, h]
theorem cellsG_get {k n i r : Nat} (f : Nat → Nat → Value) (hi : i < n) (hr : r < k) : (cellsG k f n)[i * k + r]? = some (f i r) := by
 rw [cellsG_at f (at_lt hi hr), at_div hr, at_mod hr]
theorem cellsG_append {k n m : Nat} {f g h : Nat → Nat → Value} (g1 : ∀ i r, i < n → r < k → g i r = f i r) (g2 : ∀ i r, i < m → r < k → g (n + i) r = h i r) :
 cellsG k f n ++ cellsG k h m = cellsG k g (n + m) := by
 refine List.ext_getElem? fun j => ?_
 rcases Nat.lt_or_ge j ((n + m) * k) with hj | hj
 ·have hk : 0 < k := by rcases Nat.eq_zero_or_pos k with e | e; (rw [e] at hj; omega); exact e
  have hr := Nat.mod_lt j hk
  rw [cellsG_at g hj]
  rcases Nat.lt_or_ge j (n * k) with h1 | h1
  ·rw [List.getElem?_append_left (by rw [cellsG_len]; exact h1), cellsG_at f h1, g1 _ _ ((Nat.div_lt_iff_lt_mul hk).2 h1) hr]
  ·have h2 : j - n * k < m * k := by rw [Nat.add_mul] at hj; omega
   have e : j = (n * k) + (j - n * k) := by omega
   rw [List.getElem?_append_right (by rw [cellsG_len]; exact h1), cellsG_len, cellsG_at h h2]
   obtain ⟨d, hd⟩ : ∃ d, j - n * k = d := ⟨_, rfl⟩
   rw [hd] at e h2 ⊢
   subst e
   rw [show n * k + d = d + k * n by rw [Nat.mul_comm n k]; omega, Nat.add_mul_div_left _ _ hk, Nat.add_mul_mod_self_left, Nat.add_comm (d / k) n, g2 _ _ ((Nat.div_lt_iff_lt_mul hk).2 h2) (Nat.mod_lt d hk)]
 ·rw [List.getElem?_eq_none (by rw [List.length_append, cellsG_len, cellsG_len, ← Nat.add_mul]; exact hj), List.getElem?_eq_none (by rw [cellsG_len]; exact hj)]
theorem cellsG_mem {k n : Nat} {f : Nat → Nat → Value} {u : Value} (h : u ∈ cellsG k f n) : ∃ i r, i < n ∧ r < k ∧ u = f i r := by
 obtain ⟨j, hj, rfl⟩ := List.mem_map.1 h
 have hj := List.mem_range.1 hj
 have hk : 0 < k := by rcases Nat.eq_zero_or_pos k with e | e; (rw [e] at hj; omega); exact e
 exact ⟨j / k, j % k, (Nat.div_lt_iff_lt_mul hk).2 hj, Nat.mod_lt j hk, rfl⟩
def Els (w : World) (a : Option Addr) (k : Nat) (f : Nat → Nat → Value) (n : Nat) : Prop :=
 ∀ i, i < n → ∃ b off, a = some ⟨b, off, none⟩ ∧ ∀ r, r < k → w.cell? ⟨b, off + i * k + r, none⟩ = some (f i r)
theorem Els.ext {w w' : World} {a : Option Addr} {k : Nat} {f : Nat → Nat → Value} {n : Nat} (h : Els w a k f n) (x : Ext w w') : Els w' a k f n :=
 fun i hi => let ⟨b, off, ha, hc⟩ := h i hi; ⟨b, off, ha, fun r hr => x.cell (hc r hr)⟩
theorem Els.at {w : World} {a : Option Addr} {k : Nat} {f : Nat → Nat → Value} {n : Nat} (h : Els w a k f n) (hn : 0 < n) (hk : 0 < k) :
 ∃ b off, a = some ⟨b, off, none⟩ ∧ b < w.heap.size ∧ ∀ i, i < n → ∀ r, r < k → w.cell? ⟨b, off + i * k + r, none⟩ = some (f i r) := by
 obtain ⟨b, off, ha, hc⟩ := h 0 hn
 refine ⟨b, off, ha, cell_lt (hc 0 hk), fun i hi => ?_⟩
 obtain ⟨b', off', ha', hc'⟩ := h i hi
 rw [ha] at ha'
 cases ha'
 exact hc'
theorem Els.congr {w : World} {a : Option Addr} {k : Nat} {f g : Nat → Nat → Value} {n : Nat} (h : Els w a k f n) (e : ∀ i r, i < n → r < k → g i r = f i r) : Els w a k g n :=
 fun i hi => let ⟨b, off, ha, hc⟩ := h i hi; ⟨b, off, ha, fun r hr => by rw [e i r hi hr]; exact hc r hr⟩
theorem add_at (b off j : Nat) : (⟨b, off, none⟩ : Addr).add j = ⟨b, off + j, none⟩ := by unfold Addr.add; split <;> simp_all
def OwnG (w : World) (base : Nat) (e : TypeId) (k : Nat) (v : Value) (f : Nat → Nat → Value) (n : Nat) : Prop := w.ownsRow base e k v n (cellsG k f n)
section
variable {w w' : World} {base : Nat} {e : TypeId} {k : Nat} {v : Value} {f g : Nat → Nat → Value} {n : Nat}
theorem OwnG.nil (w : World) (base : Nat) (e : TypeId) (k : Nat) (f : Nat → Nat → Value) : OwnG w base e k (.slice none 0 0) f 0 := by
 have := World.ownsRow_nil w base e k
 unfold OwnG cellsG
 simpa using this
theorem OwnG.made (w : World) {base : Nat} (hb : base ≤ w.heap.size) (e : TypeId) (k : Nat) (f : Nat → Nat → Value) : OwnG (w.alloc (.cells #[] e)) base e k (.slice (some ⟨w.heap.size, 0, none⟩) 0 0) f 0 :=
 ⟨by simp [cellsG], .inr ⟨w.heap.size, 0, #[], rfl, hb, heap_alloc_new w _, Nat.le_refl _, by unfold maxLen; omega, by simp, by simp [cellsG]⟩⟩
theorem OwnG.grown (h : OwnG w base e k v f n) {row : Option Nat} (hg : w.grownBy w' row) (hne : ∀ g, v.ownBlock = some g → row ≠ some g) : OwnG w' base e k v f n := by
 refine World.ownsRow.kept h hg ?_
 cases hub : v.ownBlock with
 | none => exact .inl rfl
 | some g => exact .inr fun h => hne g hub h.symm
theorem OwnG.ext (h : OwnG w base e k v f n) (x : Ext w w') : OwnG w' base e k v f n :=
 World.ownsRow.kept (row := none) h ⟨Below.os x, Below.tape x, Below.output x, Below.size x, fun i hi _ => Below.block x i hi⟩ (by cases v.ownBlock <;> simp)
theorem OwnG.block (h : OwnG w base e k v f n) : ∀ b, v.ownBlock = some b → base ≤ b ∧ b < w.heap.size := World.ownsRow.lt h
theorem OwnG.mono {base' : Nat} (h : OwnG w base e k v f n) (hb : base' ≤ base) : OwnG w base' e k v f n := by
 obtain ⟨h1, h2 | ⟨g, cap', cur, hv, hg, r⟩⟩ := h
 ·exact ⟨h1, .inl h2⟩
 ·exact ⟨h1, .inr ⟨g, cap', cur, hv, by omega, r⟩⟩
theorem OwnG.put (h : OwnG w base e k v f n) {p : Addr} (hne : v.ownBlock ≠ some p.block) (u : Value) : OwnG (w.setCell p u) base e k v f n := by
 obtain ⟨h1, h2 | ⟨g, cap', cur, hv, hb, hg, r⟩⟩ := h
 ·exact ⟨h1, .inl h2⟩
 ·subst hv
  exact ⟨h1, .inr ⟨g, cap', cur, rfl, hb, (Below.heap_setCell w p u g (fun e => hne (by rw [← e]; rfl))).trans hg, r⟩⟩
theorem OwnG.els (h : OwnG w base e k v f n) : ∃ a cap, v = .slice a n cap ∧ n ≤ cap ∧ Els w a k f n := by
 rcases h with ⟨h1, ⟨rfl, rfl⟩ | ⟨g, cap, cur, rfl, hb, hg, hn, hm, hs, ht⟩⟩
 ·exact ⟨none, 0, rfl, Nat.le_refl _, fun i hi => absurd hi (by omega)⟩
 ·refine ⟨_, cap, rfl, hn, fun i hi => ⟨g, 0, rfl, fun r hr => ?_⟩⟩
  rw [Nat.zero_add]; exact row_cell hg ht (cellsG_get f hi hr)
theorem OwnG.addr (h : OwnG w base e k v f n) (hl : 0 < n) : ∃ b cap, v = .slice (some ⟨b, 0, none⟩) n cap ∧ base ≤ b ∧ b < w.heap.size ∧ n ≤ cap := by
 obtain ⟨h1, ⟨_, h2⟩ | ⟨g, cap', cur, hv, hb, hg, hn, hm, hs, ht⟩⟩ := h
 ·omega
 ·exact ⟨g, cap', hv, hb, lt_of_heap hg, hn⟩
theorem OwnG.facts {b m cap : Nat} (h : OwnG w base e k (.slice (some ⟨b, 0, none⟩) m cap) f n) {i r : Nat} (hi : i < n) (hr : r < k) :
 w.cell? ⟨b, i * k + r, none⟩ = some (f i r) ∧ w.frozen? ⟨b, i * k + r, none⟩ = false ∧ m = n ∧ b < w.heap.size := by
 obtain ⟨h1, h2 | ⟨g, cap', cur, hv, hb, hg, hn, hm, hs, ht⟩⟩ := h
 ·simp at h2
 ·cases hv
  exact ⟨row_cell hg ht (cellsG_get f hi hr), by simp [World.frozen?, hg], rfl, lt_of_heap hg⟩
end
def ElemG (P : Program) (e : TypeId) (k bytes : Nat) : Prop := ∃ i z, P.info? e = some i ∧ i.zero = some z ∧ z.cells.size = k ∧ i.size = k ∧ i.bytes = bytes
theorem elemG_mk {P : Program} {e : TypeId} {k bytes : Nat} (h : (P.info? e).map (fun i => (i.zero.map (fun z => z.cells.size), i.size, i.bytes)) = some (some k, k, bytes)) : ElemG P e k bytes := by
 cases hi : P.info? e with
 | none => simp [hi] at h
 | some i =>
  simp only [hi, Option.map_some, Option.some.injEq, Prod.mk.injEq] at h
  obtain ⟨h1, h2, h3⟩ := h
  cases hz : i.zero with
  | none => simp [hz] at h1
  | some z =>
   simp only [hz, Option.map_some, Option.some.injEq] at h1
   exact ⟨i, z, hi, hz, h1, h2, h3⟩
theorem appG_wp {P : Program} {w : World} {o : Oper} {a : Act} {K : Act → World → Prop} {Q : Exit → Act → World → Prop} (s x : Operand) (t : TypeId)
 (ho : o.op = .call { callee := .builtin .append, args := #[s, x], argTypes := #[t, t] })
 (e : TypeId) (k bytes : Nat) (ht : P.underlying t = some (.slice e)) (he : ElemG P e k bytes) (hk : 0 < k) (base : Nat) (f : Nat → Nat → Value) (n : Nat) (v : Value) (hs : a.eval s = v)
 (b0 o0 m c : Nat) (h : Nat → Nat → Value) (hx : a.eval x = .slice (some ⟨b0, o0, none⟩) m c) (hown : OwnG w base e k v f n) (hel : ∀ i, i < m → ∀ r, r < k → w.cell? ⟨b0, o0 + i * k + r, none⟩ = some (h i r)) (hm : 0 < m)
 (h1 : ∀ i r, i < m → r < k → (h i r).oneCell' = true) (hl : n + m ≤ 1000000000) (hby2 : bytes ≤ 1000) (hbase : base ≤ w.heap.size)
 (g : Nat → Nat → Value) (g1 : ∀ i r, i < n → r < k → g i r = f i r) (g2 : ∀ i r, i < m → r < k → g (n + i) r = h i r)
 (hK : ∀ b cap w', OwnG w' base e k (.slice (some ⟨b, 0, none⟩) (n + m) cap) g (n + m) → w.grownBy w' v.ownBlock → (v.ownBlock = some b ∨ b = w.heap.size) → base ≤ b → (∀ w0, Ext w0 w → w0.heap.size ≤ base → Ext w0 w') →
  K (a.put o.dst (.slice (some ⟨b, 0, none⟩) (n + m) cap)) w') : o.wp P a w K Q := by
 obtain ⟨i, z, hi, hz, hzs, hsz, hby⟩ := he
 have hmul : (n + m) * bytes ≤ 1000000000 * 1000 := Nat.mul_le_mul hl hby2
 obtain ⟨v', w', hr, hown', hg, hn, hat⟩ := run_append_own_at (P := P) w base t o.type e i z k bytes ht hi hz hsz hby hzs hk v n _ hown ⟨b0, o0, none⟩ m c (cellsG k h m) (cellsG_len k h m) (by
  intro j u hj
  have hlt : j < m * k := by rw [← cellsG_len k h m]; exact (List.getElem?_eq_some_iff.1 hj).1
  rw [cellsG_at h hlt] at hj
  cases hj
  have e := Nat.div_add_mod j k
  have := hel (j / k) ((Nat.div_lt_iff_lt_mul hk).2 hlt) (j % k) (Nat.mod_lt j hk)
  rw [add_at]
  rw [Nat.add_assoc, Nat.mul_comm, e] at this
  exact this) (by
  intro u hu
  obtain ⟨i, r, hi, hr, rfl⟩ := cellsG_mem hu
  exact h1 i r hi hr) (by unfold maxLen; omega) (by omega) hbase
 have hne : ¬ v' = .slice none 0 0 := fun e => by have := (hn.1 e).2; omega
 rcases hown'.2 with ⟨e1, _⟩ | ⟨gg, cap, cur, rfl, hb, rr⟩
 ·exact absurd e1 hne
 ·rw [cellsG_append g1 g2] at hown'
  unfold Oper.wp execOp
  simp only [ho, resolve, invoke, builtin, Sem.run_bind, Sem.run_pure, Result.andThen_ok, List.map_toArray, List.map_cons, List.map_nil, hs, hx, hr]
  refine hK gg cap w' hown' hg ?_ hb (fun w0 k0 hw0 => Ext.grown k0 hg fun q hq => by have := (OwnG.block hown q hq).1; omega)
  rcases hat with hat | hat
  ·exact .inl hat.symm
  ·exact .inr (Option.some.inj hat)
theorem appGF_wp {P : Program} {w : World} {o : Oper} {a : Act} {K : Act → World → Prop} {Q : Exit → Act → World → Prop} (s x : Operand) (t : TypeId)
 (ho : o.op = .call { callee := .builtin .append, args := #[s, x], argTypes := #[t, t] })
 (e : TypeId) (k bytes : Nat) (ht : P.underlying t = some (.slice e)) (he : ElemG P e k bytes) (hk : 0 < k) (f : Nat → Nat → Value) (n : Nat) (ad : Option Addr) (hs : a.eval s = .slice ad n n) (hf : Els w ad k f n)
 (b0 o0 m c : Nat) (h : Nat → Nat → Value) (hx : a.eval x = .slice (some ⟨b0, o0, none⟩) m c) (hel : ∀ i, i < m → ∀ r, r < k → w.cell? ⟨b0, o0 + i * k + r, none⟩ = some (h i r)) (hm : 0 < m)
 (hl : n + m ≤ 1000000000) (hby2 : bytes ≤ 1000)
 (g : Nat → Nat → Value) (g1 : ∀ i r, i < n → r < k → g i r = f i r) (g2 : ∀ i r, i < m → r < k → g (n + i) r = h i r)
 (hK : ∀ cap w', OwnG w' w.heap.size e k (.slice (some ⟨w.heap.size, 0, none⟩) (n + m) cap) g (n + m) → Ext w w' →
  K (a.put o.dst (.slice (some ⟨w.heap.size, 0, none⟩) (n + m) cap)) w') : o.wp P a w K Q := by
 obtain ⟨i, z, hi, hz, hzs, hsz, hby⟩ := he
 have hmul : (n + m) * bytes ≤ 1000000000 * 1000 := Nat.mul_le_mul hl hby2
 have look : ∀ {b off q : Nat} {f : Nat → Nat → Value}, (∀ i, i < q → ∀ r, r < k → w.cell? ⟨b, off + i * k + r, none⟩ = some (f i r)) → ∀ j u, (cellsG k f q)[j]? = some u → w.cell? ((⟨b, off, none⟩ : Addr).add j) = some u := by
  intro b off q f hel j u hj
  have hlt : j < q * k := by rw [← cellsG_len k f q]; exact (List.getElem?_eq_some_iff.1 hj).1
  rw [cellsG_at f hlt] at hj
  cases hj
  have e := Nat.div_add_mod j k
  have := hel (j / k) ((Nat.div_lt_iff_lt_mul hk).2 hlt) (j % k) (Nat.mod_lt j hk)
  rw [add_at]
  rw [Nat.add_assoc, Nat.mul_comm, e] at this
  exact this
 refine appFull_wp s x t ho e i z k bytes ht hi hz hsz hby hzs ad n hs ?_ (cellsG k f n) (cellsG_len k f n) ?_ _ m c (cellsG k h m) hx (cellsG_len k h m) (look hel) hm (by unfold maxLen; omega) (by omega) fun cap w' ho' hE => hK cap w' ?_ hE
 ·rcases Nat.eq_zero_or_pos n with h0 | h0
  ·exact .inl h0
  ·obtain ⟨b, off, hb, _⟩ := hf 0 h0
   exact .inr ⟨_, hb⟩
 ·intro j u hj
  have hlt : j < n * k := by rw [← cellsG_len k f n]; exact (List.getElem?_eq_some_iff.1 hj).1
  have hn : 0 < n := by rcases Nat.eq_zero_or_pos n with e | e; (rw [e] at hlt; omega); exact e
  obtain ⟨b, off, hb, _, hc⟩ := hf.at hn hk
  exact ⟨_, hb, look hc j u hj⟩
 ·rw [cellsG_append g1 g2] at ho'
  exact ho'
end Go.Proofs.Ytpnfhcnnodolbaa
