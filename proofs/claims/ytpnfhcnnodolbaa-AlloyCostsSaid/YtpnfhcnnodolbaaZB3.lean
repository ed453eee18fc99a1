/- Texts of one proof, laid together: MemC, MkK. -/
import Derived.Test.YtpnfhcnnodolbaaZB2
import Derived.OwnWalk
namespace Go.Proofs.Ytpnfhcnnodolbaa
set_option linter.unusedVariables false
set_option linter.unusedSimpArgs false
set_option linter.unusedSectionVars false
set_option linter.unnecessarySimpa false
open Go Go.RowKit

theorem appC_wp {P : Program} {w : World} {o : Oper} {a : Act} {K : Act → World → Prop} {Q : Exit → Act → World → Prop} (s x : Operand) (t : TypeId)
 (ho : o.op = .call { callee := .builtin .append, args := #[s, x], argTypes := #[t, t] })
 (e : TypeId) (ht : P.underlying t = some (.slice e)) (he : ElemI P e) (base : Nat) (l k : List Int) (v : Value) (hs : a.eval s = v) (ad : Option Addr) (c : Nat) (hx : a.eval x = .slice ad k.length c)
 (hown : OwnI w base e v l) (hc : Ints w ad k) (hk : 0 < k.length) (hl : l.length + k.length ≤ 1099511627776) (hbase : base ≤ w.heap.size)
 (h : ∀ b cap w', OwnI w' base e (.slice (some ⟨b, 0, none⟩) (l ++ k).length cap) (l ++ k) → (∀ w0, Ext w0 w → w0.heap.size ≤ base → Ext w0 w') → base ≤ b → (∀ p : Addr, p.block < base → w'.cell? p = w.cell? p ∧ w'.frozen? p = w.frozen? p) →
  K (a.put o.dst (.slice (some ⟨b, 0, none⟩) (l ++ k).length cap)) w') : o.wp P a w K Q := by
 obtain ⟨i, hi, hz, hsz, hby⟩ := he
 obtain ⟨b0, off0, rfl, _, hcell⟩ := hc.at hk
 refine wp_append_own w s x t ho base e i (.int .i64 0) 1 8 ht hi hz hsz hby rfl (by decide) v l.length _ hs hown _ k.length c (k.map (Value.int .i64)) hx (by simp) ?_ ?_ ?_ ?_ hbase ?_
 ·intro j u hj
  simp only [List.getElem?_map, Option.map_eq_some_iff] at hj
  obtain ⟨z, hz, rfl⟩ := hj
  obtain ⟨hj, rfl⟩ := List.getElem?_eq_some_iff.1 hz
  have := hcell j hj
  rw [nth_lt hj] at this
  rw [← this]
  unfold Addr.add
  split
  ·rename_i h0; subst h0; rfl
  ·rfl
 ·intro u hu
  simp at hu
  obtain ⟨z, _, rfl⟩ := hu
  rfl
 ·unfold maxLen; omega
 ·omega
 ·intro v' w' hown' hg hn
  have hv : ¬ v' = .slice none 0 0 := fun e => by have := (hn.1 e).2; omega
  rcases hown'.2 with ⟨e1, _⟩ | ⟨g, cap, cur, rfl, hb, r⟩
  ·exact absurd e1 hv
  ·have e : l.length + k.length = (l ++ k).length := by simp
   have e2 : l.map (Value.int .i64) ++ k.map (Value.int .i64) = (l ++ k).map (Value.int .i64) := by simp
   rw [e, e2] at hown'
   rw [e]
   refine h g cap w' hown' (fun w0 k0 hw0 => Ext.grown k0 hg fun k hk => by have := (OwnI.block hown k hk).1; omega) hb fun p hp => ?_
   have hh : w'.heap[p.block]? = w.heap[p.block]? := hg.block p.block (by omega) fun e => by have := (OwnI.block hown _ e.symm).1; omega
   exact ⟨World.cell?_of_block hh, World.frozen?_of_block hh⟩

theorem grown_box {w w' : World} {base C : Nat} {e : TypeId} {v : Value} {l : List Int} (hg : w.grownBy w' v.ownBlock) (ho : OwnI w base e v l) (hC : C < base) (hs : C < w.heap.size) (o : Nat) :
 w'.cell? ⟨C, o, none⟩ = w.cell? ⟨C, o, none⟩ ∧ w'.frozen? ⟨C, o, none⟩ = w.frozen? ⟨C, o, none⟩ := by
 have hh : w'.heap[C]? = w.heap[C]? := hg.block C hs fun e => by have := (OwnI.block ho _ e.symm).1; omega
 exact ⟨World.cell?_of_block hh, World.frozen?_of_block hh⟩
theorem grown_size {w w' : World} {row : Option Nat} (hg : w.grownBy w' row) : w.heap.size ≤ w'.heap.size := hg.size

structure BoxM (w : World) (C : Nat) (e : TypeId) (x y v : Value) (l : List Int) : Prop where
 c0 : w.cell? ⟨C, 0, none⟩ = some x
 c1 : w.cell? ⟨C, 1, none⟩ = some y
 c2 : w.cell? ⟨C, 2, none⟩ = some v
 f2 : w.frozen? ⟨C, 2, none⟩ = false
 ow : OwnI w (C + 1) e v l
 hC : C < w.heap.size

theorem madeI (n : Nat) : (madeCells (Value.int .i64 0).cells (n * 1)).toList = (List.replicate n (0 : Int)).map (Value.int .i64) := by
 have hs : (Value.int .i64 0).cells = #[Value.int .i64 0] := rfl
 rw [hs, Nat.mul_one]
 unfold madeCells
 refine List.ext_getElem (by simp) fun i h1 h2 => ?_
 simp [Nat.mod_one]
theorem make_ints {P : Program} {w : World} {ops : Array Oper} {rest : List Oper} {o : Oper} {a : Act} {Q : Exit → Act → World → Prop} (hgd : o.guard = none) (l c : Operand) (t : TypeId) (hop : o.op = Op.makeSlice t l c)
 (e : TypeId) (ht : P.underlying t = some (.slice e)) (he : ElemI P e) (n : Nat) (hl : a.eval l = .int .i64 (n : Int)) (hc : a.eval c = .int .i64 (n : Int)) (hn : n ≤ 1099511627776)
 (h : ∀ w', OwnI w' w.heap.size e (.slice (some ⟨w.heap.size, 0, none⟩) n n) (List.replicate n 0) → Ext w w' → wpList P ops Q rest (a.put o.dst (.slice (some ⟨w.heap.size, 0, none⟩) n n)) w') : wpList P ops Q (o :: rest) a w := by
 obtain ⟨i, hi, hz, hsz, hby⟩ := he
 refine wpList_make_full w hgd l c t hop w.heap.size e i (.int .i64 0) 1 ht hi hz hsz .i64 .i64 _ _ n hl hc rfl rfl (by rw [hby]; omega) (by unfold maxLen; omega) (Nat.le_refl _) fun w' ho hg => ?_
 rw [madeI] at ho
 refine h w' ?_ ((Ext.refl w).grown hg fun k hk => by cases hk)
 unfold OwnI
 rw [List.length_replicate]
 exact ho

theorem OwnI.setBox {w : World} {base : Nat} {e : TypeId} {b n cap : Nat} {l : List Int} (h : OwnI w base e (.slice (some ⟨b, 0, none⟩) n cap) l) (hb : base ≤ b) {C o : Nat} (hC : C < base) (v : Value) :
 OwnI (w.setCell ⟨C, o, none⟩ v) base e (.slice (some ⟨b, 0, none⟩) n cap) l := OwnI.put h (by simp; omega) v

end Go.Proofs.Ytpnfhcnnodolbaa
namespace Go.Proofs.Ytpnfhcnnodolbaa
set_option linter.unusedVariables false
set_option linter.unusedSimpArgs false
set_option linter.unusedSectionVars false
set_option linter.unnecessarySimpa false
open Go Go.RowKit

theorem makeK {P : Program} {w : World} {o : Oper} {a : Act} {K : Act → World → Prop} {Q : Exit → Act → World → Prop} (l c : Operand) (t : TypeId) (hop : o.op = Op.makeSlice t l c)
 (e : TypeId) (ht : P.underlying t = some (.slice e)) (he : ElemI P e) (n : Nat) (hl : a.eval l = .int .i64 (n : Int)) (hc : a.eval c = .int .i64 (n : Int)) (hn : n ≤ 1099511627776)
 (h : ∀ w', OwnI w' w.heap.size e (.slice (some ⟨w.heap.size, 0, none⟩) n n) (List.replicate n 0) → Ext w w' → w.heap.size < w'.heap.size → K (a.put o.dst (.slice (some ⟨w.heap.size, 0, none⟩) n n)) w') : o.wp P a w K Q := by
 obtain ⟨i, hi, hz, hsz, hby⟩ := he
 obtain ⟨w', hrun, r1, r2⟩ := run_make_full (P := P) w w.heap.size t e i (.int .i64 0) 1 ht hi hz hsz .i64 .i64 n (by rw [hby]; omega) (by unfold maxLen; omega) (Nat.le_refl _)
 have ho : OwnI w' w.heap.size e (.slice (some ⟨w.heap.size, 0, none⟩) n n) (List.replicate n 0) := by
  rw [madeI] at r1
  unfold OwnI
  rw [List.length_replicate]
  exact r1
 unfold Oper.wp
 simp [execOp, hop, hl, hc, hrun, Result.andThen]
 exact h w' ho ((Ext.refl w).grown r2 fun k hk => by cases hk) (OwnI.block ho _ rfl).2

end Go.Proofs.Ytpnfhcnnodolbaa
