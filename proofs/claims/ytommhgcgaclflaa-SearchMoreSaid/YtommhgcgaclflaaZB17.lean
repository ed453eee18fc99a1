/- Texts of one proof, laid together: SS, ST, SU, Even, SV, Put, Val, Spr, SW. -/
import Derived.Test.YtommhgcgaclflaaZB7
import Derived.Test.YtommhgcgaclflaaSR
import Derived.Laws.OwnMore
import Derived.Test.YtommhgcgaclflaaZB6
import Derived.Test.YtommhgcgaclflaaZB11
import Derived.Test.YtommhgcgaclflaaZB15
namespace Go.Proofs.Ytommhgcgaclflaa
set_option linter.unusedVariables false
set_option linter.unusedSimpArgs false
set_option linter.unusedSectionVars false
set_option linter.unnecessarySimpa false
open Go Go.RowKit Game
set_option maxRecDepth 100000

theorem Tab.vals {w : World} {a : Option Addr} {t : List (List Int)} (h : Tab w a t) (hl : 0 < t.length) :
 ∃ b off vs, a = some ⟨b, off, none⟩ ∧ b < w.heap.size ∧ Sls w vs t ∧ ∀ j u, vs[j]? = some u → w.cell? (Addr.add ⟨b, off, none⟩ j) = some u := by
 obtain ⟨b, off, rfl, hb, hc⟩ := h.atC hl
 have each : ∀ i, ∃ q : Option Addr × Nat, i < t.length → w.cell? ⟨b, off + i, none⟩ = some (.slice q.1 (row t i).length q.2) ∧ Ints w q.1 (row t i) ∧ (row t i).length ≤ q.2 := by
  intro i
  by_cases hi : i < t.length
  ·obtain ⟨ai, ci, h1, h2, h4⟩ := hc i hi
   exact ⟨(ai, ci), fun _ => ⟨h1, h2, h4⟩⟩
  ·exact ⟨(none, 0), fun h => absurd h hi⟩
 obtain ⟨q, hq⟩ := Classical.axiomOfChoice each
 have hv : ∀ i, i < t.length → ((List.range t.length).map fun i => Value.slice (q i).1 (row t i).length (q i).2)[i]? = some (Value.slice (q i).1 (row t i).length (q i).2) := by
  intro i hi; simp [hi]
 refine ⟨b, off, (List.range t.length).map fun i => Value.slice (q i).1 (row t i).length (q i).2, rfl, hb, ⟨by simp, fun i hi => ⟨_, _, hv i hi, (hq i hi).2⟩⟩, fun j u hj => ?_⟩
 have hjl : j < t.length := by have := (List.getElem?_eq_some_iff.1 hj).1; simpa using this
 rw [hv j hjl] at hj
 cases hj
 have := (hq j hjl).1
 unfold Addr.add
 split
 ·rename_i h0; subst h0; exact this
 ·exact this

theorem elemRowS : ElemS Try.prog 25 := elemS_mk (by kernel_rfl)

theorem appFreshV_wp {P : Program} {w : World} {o : Oper} {a : Act} {K : Act → World → Prop} {Q : Exit → Act → World → Prop} (s x : Operand) (t : TypeId)
 (ho : o.op = .call { callee := .builtin .append, args := #[s, x], argTypes := #[t, t] })
 (e : TypeId) (ht : P.underlying t = some (.slice e)) (he : ElemS P e) (vs : List Value) (ad0 : Option Addr) (hs : a.eval s = .slice ad0 0 0) (ad : Addr) (n c : Nat) (hx : a.eval x = .slice (some ad) n c) (hn : vs.length = n)
 (hc : ∀ j u, vs[j]? = some u → w.cell? (ad.add j) = some u) (hk : 0 < n) (hl : n ≤ 1000)
 (h : ∀ cap w', OwnV w' w.heap.size e (.slice (some ⟨w.heap.size, 0, none⟩) n cap) vs → Ext w w' →
  K (a.put o.dst (.slice (some ⟨w.heap.size, 0, none⟩) n cap)) w') : o.wp P a w K Q := by
 obtain ⟨i, hi, hz, hsz, hby⟩ := he
 subst hn
 exact appFresh_wp s x t ho e i (.slice none 0 0) 1 24 ht hi hz hsz hby rfl ad0 hs ad vs.length c vs hx (by simp) hc hk (by unfold maxLen; omega) (by omega) h

set_option maxHeartbeats 4000000 in
theorem clone_any (t : List (List Int)) (hl : 0 < t.length) (h9 : t.length ≤ 1000) (a : Option Addr) (n cap : Nat) (hn : n = t.length) (w : World) (hT : Tab w a t) :
 Calls Try.prog 119 #[.slice a n cap] w fun e w' => ∃ g cp vs, e = .returned (.slice (some ⟨g, 0, none⟩) t.length cp) ∧
  OwnV w' w.heap.size 25 (.slice (some ⟨g, 0, none⟩) t.length cp) vs ∧ Sls w vs t ∧ Ext w w' := by
 subst hn
 obtain ⟨b, off, vs, rfl, hb, hS, hc⟩ := hT.vals hl
 have hlv : Hid (vs.length = t.length) := hid hS.1
 have hcc := hid hc
 have hSS := hid hS
 clear hc hS hT
 have he : ∀ w : World, (binOp .eql 22 (.slice (some ⟨b, off, none⟩) t.length cap) (.slice none 0 0)).run Try.prog w = .ok (.bool false) w := fun _ => rfl
 go_enter Try.func119, Try.ntmps119
 go_wp2_with (at_builtin; refine wpList_plain rfl fun K hK => appFreshV_wp _ _ 22 rfl 25 Try.underlying22 elemRowS vs _ rfl _ t.length cap rfl hlv.out ?ca hl (by omega) fun cp w' ho hE => hK _ _ ?_)
 case ca => exact fun j u hj => Ext.cell (w := w) (by repeat (with_reducible first | assumption | exact Ext.refl _ | refine Ext.drew ?_ | refine Ext.drewN ?_ _ | refine Ext.alloc ?_ _ | refine xS ?_ _ | refine xT ?_ (by assumption))) (hcc.out j u hj)
 have hE1 : Ext w w' := Ext.trans (by repeat (with_reducible first | assumption | exact Ext.refl _ | refine Ext.drew ?_ | refine Ext.drewN ?_ _ | refine Ext.alloc ?_ _ | refine xS ?_ _ | refine xT ?_ (by assumption))) hE
 simp only [World.size_alloc] at ho
 have hoB := hid (OwnV.mono (base' := w.heap.size) ho (by omega))
 go_wp2
 go_ret
 exact ⟨w.heap.size + 1, cp, vs, rfl, hoB.out, hSS.out, hE1⟩

theorem OwnV.take {w : World} {base : Nat} {e : TypeId} {g n cap : Nat} {vs : List Value} (h : OwnV w base e (.slice (some ⟨g, 0, none⟩) n cap) vs) (hn : n = vs.length) (k : Nat) (hk : k ≤ vs.length) :
 OwnV w base e (.slice (some ⟨g, 0, none⟩) k cap) (vs.take k) := by
 subst hn
 obtain ⟨h1, h2 | ⟨g', cap', cur, hv, hb, hg, hnc, hcm, hcs, ht⟩⟩ := h
 ·simp at h2
 ·simp only [Value.slice.injEq, Option.some.injEq, Addr.mk.injEq, and_true, true_and] at hv
  obtain ⟨rfl, rfl⟩ := hv
  have e1 : (vs.take k).length = k := by simp; omega
  refine ⟨by rw [e1, Nat.mul_one], .inr ⟨g, cap, cur, by rw [e1], hb, hg, by rw [e1]; omega, hcm, hcs, ?_⟩⟩
  rw [e1]
  simp only [Nat.mul_one] at ht ⊢
  conv => rhs; rw [← ht, List.take_take, Nat.min_eq_left hk]
def cutV (vs : List Value) (k : Nat) : List Value := vs.take k ++ vs.drop (k + 1)
theorem cutV_len {vs : List Value} {k : Nat} (h : k < vs.length) : (cutV vs k).length = vs.length - 1 := by simp [cutV]; omega
theorem appNone_wpV {P : Program} {w : World} {o : Oper} {a : Act} {K : Act → World → Prop} {Q : Exit → Act → World → Prop} (s x : Operand) (t : TypeId)
 (ho : o.op = .call { callee := .builtin .append, args := #[s, x], argTypes := #[t, t] })
 (e : TypeId) (ht : P.underlying t = some (.slice e)) (he : ElemS P e) (ad0 : Option Addr) (n c0 : Nat) (hs : a.eval s = .slice ad0 n c0) (hn : n ≤ c0) (ad : Option Addr) (c : Nat) (hx : a.eval x = .slice ad 0 c)
 (h : K (a.put o.dst (.slice ad0 n c0)) w) : o.wp P a w K Q := by
 obtain ⟨i, hi, hz, hsz, hby⟩ := he
 have hr : (Builtin.append_ #[t, t] o.type #[.slice ad0 n c0, .slice ad 0 c]).run P w = .ok (.slice ad0 n c0) w := by
  refine run_append_nothing w t t o.type e i ht hi ad0 n c0 hn _ ⟨.inl ⟨e, ht⟩, fun _ => rfl, ?_, ?_, by simp, by simp⟩
  ·cases ad <;> simp [Builtin.firstCells, loadCells, loadCellsFrom]
  ·cases ad <;> simp [Builtin.firstCells, loadCells, loadCellsFrom]
 unfold Oper.wp execOp
 simp only [ho, resolve, invoke, builtin, Sem.run_bind, Sem.run_pure, Result.andThen_ok, List.map_toArray, List.map_cons, List.map_nil, hs, hx, hr]
 exact h

theorem appDel_wp {P : Program} {w : World} {o : Oper} {a : Act} {K : Act → World → Prop} {Q : Exit → Act → World → Prop} (s x : Operand) (t : TypeId)
 (ho : o.op = .call { callee := .builtin .append, args := #[s, x], argTypes := #[t, t] })
 (e : TypeId) (ht : P.underlying t = some (.slice e)) (he : ElemS P e) (base g n k cap m1 : Nat) (hm1 : n = m1 + 1) (vs : List Value) (hn : n = vs.length) (hk : k < n) (hcap : n ≤ cap) (hs : a.eval s = .slice (some ⟨g, 0, none⟩) k cap)
 (ad : Addr) (m c : Nat) (hx : a.eval x = .slice (some ad) m c) (hm : m = n - (k + 1)) (had : 0 < m → ad = ⟨g, k + 1, none⟩)
 (hown : OwnV w base e (.slice (some ⟨g, 0, none⟩) n cap) vs) (h1 : ∀ u ∈ vs, u.oneCell' = true)
 (h : ∀ w', OwnV w' base e (.slice (some ⟨g, 0, none⟩) m1 cap) (cutV vs k) → w.grownBy w' (some g) →
  K (a.put o.dst (.slice (some ⟨g, 0, none⟩) m1 cap)) w') : o.wp P a w K Q := by
 obtain ⟨i, hi, hz, hsz, hby⟩ := he
 have hown0 := hown
 have hT := hown.take hn k (by omega)
 subst hm
 have e1 : (vs.take k).length = k := by simp; omega
 by_cases h0 : 0 < n - (k + 1)
 ·have := had h0
  subst this
  have hd : (vs.drop (k + 1)).length = n - (k + 1) := by simp [hn]
  have hT' : w.ownsRow base e 1 (.slice (some ⟨g, 0, none⟩) k cap) k (vs.take k) := by have := hT; unfold OwnV at this; rwa [e1] at this
  obtain ⟨w', hr, ho', hg⟩ := run_append_fits (P := P) w base t o.type e i 1 ht hi hsz g k cap (vs.take k) hT' ⟨g, k + 1, none⟩ (n - (k + 1)) c (vs.drop (k + 1)) (by rw [hd, Nat.mul_one]) (by
   intro j u hj
   rw [List.getElem?_drop] at hj
   rcases hown0.cells with ⟨q, _⟩ | ⟨g', c', q, _, _, _, hc⟩
   ·simp at q
   ·simp only [Value.slice.injEq, Option.some.injEq, Addr.mk.injEq, and_true, true_and] at q
    obtain ⟨rfl, _, rfl⟩ := q
    have := (hc _ _ hj).1
    unfold Addr.add
    split
    ·rename_i h0; subst h0; exact this
    ·exact this) (fun u hu => h1 u (List.mem_of_mem_drop hu)) (by omega)
  have e3 : k + (n - (k + 1)) = m1 := by omega
  rw [e3] at hr ho'
  unfold Oper.wp execOp
  simp only [ho, resolve, invoke, builtin, Sem.run_bind, Sem.run_pure, Result.andThen_ok, List.map_toArray, List.map_cons, List.map_nil, hs, hx, hr]
  refine h w' ?_ hg
  unfold OwnV
  have : (cutV vs k).length = m1 := by rw [cutV_len (by omega), ← hn]; omega
  rw [this]
  exact ho'
 ·have e2 : n - (k + 1) = 0 := by omega
  rw [e2] at hx
  have e4 : k = m1 := by omega
  refine appNone_wpV s x t ho e ht ⟨i, hi, hz, hsz, hby⟩ (some ⟨g, 0, none⟩) k cap hs (by omega) (some ad) c hx ?_
  have e5 : cutV vs k = vs.take k := by unfold cutV; rw [List.drop_eq_nil_of_le (by omega), List.append_nil]
  subst e4
  refine h w (by rw [e5]; exact hT) ⟨rfl, rfl, rfl, Nat.le_refl _, fun k _ _ => rfl⟩

theorem clear_one {P : Program} {w : World} {t e ty : TypeId} (ht : P.underlying t = some (.slice e)) (hv : ∀ w, (zeroValue e).run P w = .ok (.slice none 0 0) w) {base g m cap c : Nat} {vs : List Value}
 (hm : m = vs.length) (h : OwnV w base e (.slice (some ⟨g, 0, none⟩) m cap) vs) (hc : m < cap) :
 (Builtin.clear_ #[t] ty #[.slice (some ⟨g, m, none⟩) 1 c]).run P w = .ok (.tuple #[]) (w.setCell ⟨g, m, none⟩ (.slice none 0 0)) ∧
 OwnV (w.setCell ⟨g, m, none⟩ (.slice none 0 0)) base e (.slice (some ⟨g, 0, none⟩) m cap) vs ∧ w.grownBy (w.setCell ⟨g, m, none⟩ (.slice none 0 0)) (some g) := by
 subst hm
 obtain ⟨h1, h2 | ⟨g', cap', cur, hv', hb, hg, hnc, hcm, hcs, hta⟩⟩ := h
 ·simp at h2
 ·simp only [Value.slice.injEq, Option.some.injEq, Addr.mk.injEq, and_true, true_and] at hv'
  obtain ⟨rfl, rfl⟩ := hv'
  refine ⟨?_, ⟨h1, .inr ⟨g, cap, cur.setIfInBounds vs.length (.slice none 0 0), rfl, hb, heap_setCell_same w g _ cur e _ hg, hnc, hcm, by simpa using hcs, ?_⟩⟩, ⟨rfl, rfl, rfl, by simp, fun k _ hk => heap_setCell_other w ⟨g, vs.length, none⟩ k _ (fun e => hk (by simp [e]))⟩⟩
  ·rw [Lib.run_clear_slice w t e ty (.slice none 0 0) ht hv rfl rfl g vs.length 1 c (by omega) (fun j hj => by
    obtain rfl : j = 0 := by omega
    rw [cell_of_row w g _ cur e (0, 0) hg]
    simp; omega) (fun j hj => by
    exact frozen_of_row w g _ cur e hg)]
   rfl
  ·rw [Array.toList_setIfInBounds, List.take_set_of_le (by omega)]
   exact hta

set_option maxHeartbeats 4000000 in
theorem delete_any (vs : List Value) (h1 : ∀ u ∈ vs, u.oneCell' = true) (k : Nat) (hk : k < vs.length) (h9 : vs.length ≤ 1000) (g cap : Nat) (n m : Nat) (hn : n = vs.length) (hm : n = m + 1) (base : Nat) (w : World) (ho : OwnV w base 25 (.slice (some ⟨g, 0, none⟩) n cap) vs) :
 Calls Try.prog 118 #[.slice (some ⟨g, 0, none⟩) n cap, .int .i64 k, .int .i64 ((k : Int) + 1)] w fun e w' => e = .returned (.slice (some ⟨g, 0, none⟩) m cap) ∧
  OwnV w' base 25 (.slice (some ⟨g, 0, none⟩) m cap) (cutV vs k) ∧ w.grownBy w' (some g) := by
 have hcap : n ≤ cap := by
  rcases ho.cells with ⟨h, _⟩ | ⟨g', c', h, _, _, h2, _⟩
  ·simp at h
  ·simp only [Value.slice.injEq, Option.some.injEq, Addr.mk.injEq, and_true, true_and] at h
   omega
 have hoo := hid ho
 have hvl := hid hn
 have hml := hid hm
 have hcl := hid (cutV_len hk)
 have hone := hid h1
 have hkn : k < n := by omega
 have hn9 : n ≤ 1000 := by omega
 clear ho h1
 have q1 : (k : Int) ≤ (n : Int) := by omega
 have q2 : (0 : Int) ≤ (k : Int) := by omega
 have q3 : (k : Int) + 1 ≤ (n : Int) := by omega
 have q4 : (n : Int) ≤ (cap : Int) := by omega
 have q5 : (k : Int) ≤ (k : Int) + 1 := by omega
 have q6 : (0 : Int) ≤ (k : Int) + 1 := by omega
 have q7 : ((k : Int) == (k : Int) + 1) = false := by rw [beq_eq_false_iff_ne]; omega
 have q8 : ((k : Int) + 1).toNat = k + 1 := by omega
 have q9 : (k : Int) ≤ (cap : Int) := by omega
 have r1 : (m : Int) ≤ (n : Int) := by omega
 have r2 : (0 : Int) ≤ (m : Int) := by omega
 have r3 : (m : Int) ≤ (cap : Int) := by omega
 have r4 : n - m = 1 := by omega
 clear hn hk h9 hm
 have hck : cap = k + 1 ∨ ¬ cap = k + 1 := Classical.em _
 obtain ⟨M, hM⟩ : ∃ M, n - (k + 1) = M := ⟨_, rfl⟩
 rcases hck with hck | hck
 ·subst hck
  go_enter Try.func118, Try.ntmps118
  go_wp2
  go_still_tail 6, (by kernel_rfl)
  change wpList _ _ _ _ _ (World.drew _)
  refine wpList_plain rfl fun K hK => appDel_wp _ _ 22 rfl 25 Try.underlying22 elemRowS base g n k _ m hml.out vs hvl.out hkn hcap rfl _ _ _ (by rfl) ?a1 ?a2 ?a3 hone.out fun w9 ho9 hg9 => hK _ _ ?_
  (case a1 => omega)
  (case a2 => first | (intro _; rfl) | (intro h; omega))
  (case a3 => exact hoo.out.ext (by repeat (with_reducible first | assumption | exact Ext.refl _ | refine Ext.drew ?_ | refine Ext.drewN ?_ _ | refine Ext.alloc ?_ _ | refine xS ?_ _ | refine xT ?_ (by assumption))))
  have hl2 := hid (show m = (cutV vs k).length by rw [hcl.out, ← hvl.out]; have := hml.out; omega)
  obtain ⟨c1, c2, c3⟩ := clear_one (P := Try.prog) (c := (k + 1) - m) (ty := 0) Try.underlying22 (fun w => by kernel_rfl) hl2.out ho9 (by have := hml.out; omega)
  have c2 := hid c2
  have c3 := hid c3
  have hg9 := hid hg9
  clear ho9
  have m1 : ¬ (k + 1) = m := by have := hml.out; omega
  have m2 : ¬ (k + 1) ≤ m := by have := hml.out; omega
  have m3 : m < (k + 1) := by have := hml.out; omega
  clear hM q5
  go_wp2
  go_ret
  exact ⟨rfl, c2.out, World.grownBy.trans (World.grownBy.trans (show w.grownBy w.drew (some g) from ⟨rfl, rfl, rfl, Nat.le_refl _, fun _ _ _ => rfl⟩) hg9.out) c3.out⟩
 ·go_enter Try.func118, Try.ntmps118
  go_wp2
  go_still_tail 6, (by kernel_rfl)
  change wpList _ _ _ _ _ (World.drew _)
  refine wpList_plain rfl fun K hK => appDel_wp _ _ 22 rfl 25 Try.underlying22 elemRowS base g n k _ m hml.out vs hvl.out hkn hcap rfl _ _ _ (by rfl) ?b1 ?b2 ?b3 hone.out fun w9 ho9 hg9 => hK _ _ ?_
  (case b1 => omega)
  (case b2 => first | (intro _; rfl) | (intro h; omega))
  (case b3 => exact hoo.out.ext (by repeat (with_reducible first | assumption | exact Ext.refl _ | refine Ext.drew ?_ | refine Ext.drewN ?_ _ | refine Ext.alloc ?_ _ | refine xS ?_ _ | refine xT ?_ (by assumption))))
  have hl2 := hid (show m = (cutV vs k).length by rw [hcl.out, ← hvl.out]; have := hml.out; omega)
  obtain ⟨c1, c2, c3⟩ := clear_one (P := Try.prog) (c := cap - m) (ty := 0) Try.underlying22 (fun w => by kernel_rfl) hl2.out ho9 (by have := hml.out; omega)
  have c2 := hid c2
  have c3 := hid c3
  have hg9 := hid hg9
  clear ho9
  have m1 : ¬ cap = m := by have := hml.out; omega
  have m2 : ¬ cap ≤ m := by have := hml.out; omega
  have m3 : m < cap := by have := hml.out; omega
  clear hM q5
  go_wp2
  go_ret
  exact ⟨rfl, c2.out, World.grownBy.trans (World.grownBy.trans (show w.grownBy w.drew (some g) from ⟨rfl, rfl, rfl, Nat.le_refl _, fun _ _ _ => rfl⟩) hg9.out) c3.out⟩

end Go.Proofs.Ytommhgcgaclflaa
namespace Go.Proofs.Ytommhgcgaclflaa
set_option linter.unusedVariables false
set_option linter.unusedSimpArgs false
set_option linter.unusedSectionVars false
set_option linter.unnecessarySimpa false
open Go Go.RowKit Game
set_option maxRecDepth 100000

def cutT (t : List (List Int)) (k : Nat) : List (List Int) := t.take k ++ t.drop (k + 1)
theorem cutT_len {t : List (List Int)} {k : Nat} (h : k < t.length) : (cutT t k).length = t.length - 1 := by simp [cutT]; omega
theorem cutT_row {t : List (List Int)} {k : Nat} (h : k < t.length) (j : Nat) : row (cutT t k) j = if j < k then row t j else row t (j + 1) := by
 unfold cutT row
 simp only [List.getD_eq_getElem?_getD]
 by_cases hj : j < k
 ·rw [List.getElem?_append_left (by simp; omega), if_pos hj, List.getElem?_take, if_pos hj]
 ·rw [List.getElem?_append_right (by simp; omega), if_neg hj, List.getElem?_drop, List.length_take, Nat.min_eq_left (by omega)]
  congr 2; omega
def tlTo (t : List (List Int)) : Nat → List (List Int)
 | 0 => []
 | i + 1 => tlTo t i ++ [(row t i).drop 1]
theorem tlTo_len (t : List (List Int)) (n : Nat) : (tlTo t n).length = n := by induction n <;> simp [tlTo, *]
theorem tlTo_row (t : List (List Int)) : ∀ n i, i < n → row (tlTo t n) i = (row t i).drop 1
 | n + 1, i, h => by
  simp only [tlTo]
  rcases Nat.lt_or_ge i n with g | g
  ·rw [row_append_left (by rw [tlTo_len]; exact g)]; exact tlTo_row t n i g
  ·obtain rfl : i = n := by omega
   rw [row_append_right (by rw [tlTo_len]; omega), tlTo_len]; simp [row]
def minF : Nat → List (List Int) → Nat → Int
 | 0, _, _ => 1
 | n + 1, t, w => sm (n + 1) fun i => sgn i * ent (cutT t w) i 0 * minF n (tlTo (cutT t w) (n + 1)) i
def minTo (n : Nat) (t : List (List Int)) (w k : Nat) : Int := sm k fun i => sgn i * ent (cutT t w) i 0 * minF n (tlTo (cutT t w) (n + 1)) i
structure Rc (n : Nat) (t : List (List Int)) : Prop where
 m : t.length = n + 1
 n : ∀ i, i < n + 1 → (row t i).length = n
 b : ∀ i k, -200 ≤ ent t i k ∧ ent t i k ≤ 200
theorem Rc.cut {n : Nat} {t : List (List Int)} (h : Rc n t) {w : Nat} (hw : w < n + 1) : Sq n (cutT t w) := by
 have hl : w < t.length := by rw [h.m]; exact hw
 refine ⟨by rw [cutT_len hl, h.m]; omega, fun i hi => ?_, fun i j => ?_⟩
 ·rw [cutT_row hl]; split
  ·exact h.n i (by omega)
  ·exact h.n (i + 1) (by omega)
 ·unfold ent; rw [cutT_row hl]; split
  ·exact h.b i j
  ·exact h.b (i + 1) j
theorem Sq.tl {n : Nat} {t : List (List Int)} (h : Sq (n + 1) t) : Rc n (tlTo t (n + 1)) := by
 refine ⟨tlTo_len t (n + 1), fun i hi => ?_, fun i j => ?_⟩
 ·rw [tlTo_row t _ i hi, List.length_drop, h.n i hi]; omega
 ·rcases Nat.lt_or_ge i (n + 1) with g | g
  ·unfold ent
   rw [tlTo_row t _ i g]
   have := h.b i (j + 1)
   unfold ent nth at this
   unfold nth
   simp only [List.getD_eq_getElem?_getD] at this ⊢
   rw [List.getElem?_drop, Nat.add_comm 1 j]
   exact this
  ·unfold ent; rw [row_ge (by rw [tlTo_len]; exact g)]; simp [nth]
theorem min_part {n : Nat} {t : List (List Int)} (h : Rc (n + 1) t) (ih : ∀ s w, Rc n s → w < n + 1 → -detB n ≤ minF n s w ∧ minF n s w ≤ detB n) {w : Nat} (hw : w < n + 2) {k : Nat} (hk : k < n + 1) :
 -(200 * detB n) ≤ sgn k * ent (cutT t w) k 0 * minF n (tlTo (cutT t w) (n + 1)) k ∧ sgn k * ent (cutT t w) k 0 * minF n (tlTo (cutT t w) (n + 1)) k ≤ 200 * detB n := by
 have hc := h.cut hw
 have h1 := hc.b k 0
 have h2 : -200 ≤ sgn k * ent (cutT t w) k 0 ∧ sgn k * ent (cutT t w) k 0 ≤ 200 := by rcases sgn_bd k with e | e <;> rw [e] <;> omega
 exact mul_abs h2 (ih _ _ hc.tl hk) (by omega)
theorem min_bd : ∀ n t w, Rc n t → w < n + 1 → -detB n ≤ minF n t w ∧ minF n t w ≤ detB n
 | 0, t, w, _, _ => by simp [minF, detB]
 | n + 1, t, w, h, hw => by
  have := sm_abs (n := n + 1) (f := fun i => sgn i * ent (cutT t w) i 0 * minF n (tlTo (cutT t w) (n + 1)) i) (B := 200 * detB n) fun k hk => min_part h (min_bd n) hw hk
  simp only [minF, detB]
  rw [show 200 * ((n : Int) + 1) * detB n = ((n + 1 : Nat) : Int) * (200 * detB n) by rw [Int.natCast_add]; simp; grind]
  exact this

theorem Sls.at {w : World} {vs : List Value} {t : List (List Int)} (h : Sls w vs t) {i : Nat} (hi : i < t.length) : ∃ ai ci, vs[i]? = some (.slice ai (row t i).length ci) ∧ Ints w ai (row t i) ∧ (row t i).length ≤ ci := h.2 i hi
theorem Sls.one {w : World} {vs : List Value} {t : List (List Int)} (h : Sls w vs t) : ∀ u ∈ vs, u.oneCell' = true := by
 intro u hu
 obtain ⟨i, hi, rfl⟩ := List.mem_iff_getElem.1 hu
 obtain ⟨a, c, h1, _⟩ := h.2 i (by rw [← h.1]; exact hi)
 rw [List.getElem?_eq_getElem hi] at h1
 rw [Option.some.inj h1]
 rfl
theorem Sls.cut {w : World} {vs : List Value} {t : List (List Int)} (h : Sls w vs t) {k : Nat} (hk : k < t.length) : Sls w (cutV vs k) (cutT t k) := by
 have hv : k < vs.length := by rw [h.1]; exact hk
 refine ⟨by rw [cutV_len hv, cutT_len hk, h.1], fun i hi => ?_⟩
 rw [cutT_len hk] at hi
 have e : (cutV vs k)[i]? = if i < k then vs[i]? else vs[i + 1]? := by
  unfold cutV
  by_cases hj : i < k
  ·rw [List.getElem?_append_left (by simp; omega), if_pos hj, List.getElem?_take, if_pos hj]
  ·rw [List.getElem?_append_right (by simp; omega), if_neg hj, List.getElem?_drop, List.length_take, Nat.min_eq_left (by omega)]
   congr 1; omega
 rw [e, cutT_row hk]
 split
 ·exact h.2 i (by omega)
 ·exact h.2 (i + 1) (by omega)
theorem OwnV.tab {w : World} {base : Nat} {e : TypeId} {g n cap : Nat} {vs : List Value} {t : List (List Int)} (h : OwnV w base e (.slice (some ⟨g, 0, none⟩) n cap) vs) (hs : Sls w vs t) : Tab w (some ⟨g, 0, none⟩) t := by
 rcases h.cells with ⟨q, _⟩ | ⟨g', c', q, _, _, _, hc⟩
 ·simp at q
 ·simp only [Value.slice.injEq, Option.some.injEq, Addr.mk.injEq, and_true, true_and] at q
  obtain ⟨rfl, _, rfl⟩ := q
  intro i hi
  obtain ⟨ai, ci, h1, h2, h3⟩ := hs.2 i hi
  exact ⟨g, 0, ai, ci, rfl, by rw [Nat.zero_add]; exact (hc i _ h1).1, h2, h3⟩

end Go.Proofs.Ytommhgcgaclflaa
namespace Go.Proofs.Ytommhgcgaclflaa
set_option linter.unusedVariables false
set_option linter.unusedSimpArgs false
set_option linter.unusedSectionVars false
set_option linter.unnecessarySimpa false
open Go Go.RowKit Game
set_option maxRecDepth 100000

set_option maxHeartbeats 8000000 in
theorem minor_any (n : Nat) : n ≤ 3 → ∀ (t : List (List Int)) (h : Rc n t) (wi : Nat) (hw : wi < n + 1) (a : Option Addr) (m cap : Nat) (hm : m = n + 1) (w : World), Tab w a t →
 Calls Try.prog 115 #[.slice a m cap, .int .i64 wi] w fun e w' => e = .returned (.int .i64 (minF n t wi)) ∧ Ext w w' := by
 induction n with
 | zero =>
  intro _ t h wi hw a m cap hm w hT
  have hH := hid h
  have hTT := hid hT
  have hlm := h.m
  have hl := hid hlm
  have hcu := hid (h.cut hw)
  obtain rfl : wi = 0 := by omega
  subst hm
  clear hlm h hT
  go_enter Try.func115, Try.ntmps115
  go_wp2_with (first | (go_at_call 119; refine (clone_any t (by rw [hl.out]; omega) (by rw [hl.out]; omega) a _ cap hl.out.symm _ (hTT.out.ext (by repeat (with_reducible first | assumption | exact Ext.refl _ | refine Ext.drew ?_ | refine Ext.drewN ?_ _ | refine Ext.alloc ?_ _ | refine xS ?_ _ | refine xT ?_ (by assumption))))).mono ?_; rintro e w1 ⟨g, cp, vs, rfl, ho1, hS1, hE1⟩; rw [hl.out] at ho1; (try rw [hl.out]); have hS1 := hid hS1; have ho1 := hid ho1) | (go_at_call 118; refine (delete_any vs hS1.out.one 0 (by rw [hS1.out.1, hl.out]; omega) (by rw [hS1.out.1, hl.out]; omega) g cp 1 0 (by rw [hS1.out.1, hl.out]) rfl _ _ (ho1.out.ext (by repeat (with_reducible first | assumption | exact Ext.refl _ | refine Ext.drew ?_ | refine Ext.drewN ?_ _ | refine Ext.alloc ?_ _ | refine xS ?_ _ | refine xT ?_ (by assumption))))).mono ?_; rintro e w2 ⟨rfl, ho2, hg2⟩))
  have hE2 : Ext w w2 := Ext.grown hE1 hg2 (fun k hk => by
   cases hk
   exact (ho1.out.block g rfl).1)
  clear hg2 ho2 ho1 hS1
  go_wp2
  go_ret
  exact ⟨rfl, hE2⟩
 | succ n ih =>
  intro hn t h wi hw a m cap hm w hT
  subst hm
  have ih := hid (ih (by omega))
  have hbd := hid (fun k (hk : k < n + 1) => min_part h (min_bd n) hw hk)
  have hB : detB n ≤ 80000 ∧ 0 ≤ detB n := by
   have : n = 0 ∨ n = 1 ∨ n = 2 := by omega
   rcases this with rfl | rfl | rfl <;> simp [detB]
  have hfin : Hid (minF (n + 1) t wi = minTo n t wi (n + 1)) := hid rfl
  have hTT := hid hT
  have hlm := h.m
  have hl := hid hlm
  have hsq := hid (h.cut hw)
  have hpd : Hid (∀ k, minTo n t wi (k + 1) = minTo n t wi k + sgn k * ent (cutT t wi) k 0 * minF n (tlTo (cutT t wi) (n + 1)) k) := hid fun k => rfl
  have hm2 := hid (fun (W : World) (h9 : Ext w W) => hTT.out.ext h9)
  have hwi := hid hw
  have q7 := Go.IntWalk.i64_in ((wi : Int) + 1) (by omega)
  obtain ⟨N2, hN2⟩ : ∃ N2, n + 1 + 1 = N2 := ⟨_, rfl⟩
  obtain ⟨N, hN⟩ : ∃ N, n + 1 = N := ⟨_, rfl⟩
  rw [hN2] at hl
  rw [hN] at hsq hfin hbd hpd
  rw [hN2]
  have hNN : N2 = N + 1 := by omega
  have hN1 : 1 ≤ N := by omega
  have hN3 : N ≤ 3 := by omega
  have hM2 := hid hNN
  have hN := hid hN
  have hN0 : 0 < N := by omega
  have hN00 : (0 : Int) < (N : Int) := by omega
  have hNe : ((N : Int) == 0) = false := by rw [beq_eq_false_iff_ne]; omega
  have hNf : ¬ (N : Int) = 0 := by omega
  have hwi2 : Hid (wi < N2) := hid (by have := hwi.out; omega)
  have hN24 : Hid (N2 ≤ 4) := hid (by omega)
  clear hlm h hT hw hN2 hNN hn
  go_enter Try.func115, Try.ntmps115
  go_wp2_with (first | (go_at_call 119; refine (clone_any t (by rw [hl.out, hM2.out]; omega) (by rw [hl.out]; have := hN24.out; omega) a _ cap hl.out.symm _ (hTT.out.ext (by repeat (with_reducible first | assumption | exact Ext.refl _ | refine Ext.drew ?_ | refine Ext.drewN ?_ _ | refine Ext.alloc ?_ _ | refine xS ?_ _ | refine xT ?_ (by assumption))))).mono ?_; rintro e w1 ⟨g, cp, vs, rfl, ho1, hS1, hE1⟩; rw [hl.out] at ho1; (try rw [hl.out]); have hS1 := hid hS1; have ho1 := hid ho1) | (go_at_call 118; refine (delete_any vs hS1.out.one wi (by rw [hS1.out.1, hl.out]; exact hwi2.out) (by rw [hS1.out.1, hl.out]; have := hN24.out; omega) g cp N2 N (by rw [hS1.out.1, hl.out]) hM2.out _ _ (ho1.out.ext (by repeat (with_reducible first | assumption | exact Ext.refl _ | refine Ext.drew ?_ | refine Ext.drewN ?_ _ | refine Ext.alloc ?_ _ | refine xS ?_ _ | refine xT ?_ (by assumption))))).mono ?_; rintro e w2 ⟨rfl, ho2, hg2⟩; have ho2 := hid ho2; have hg2 := hid hg2))
  have hE2 : Ext w w2 := Ext.grown hE1 hg2.out (fun k hk => by
   cases hk
   exact (ho1.out.block g rfl).1)
  have hTR : Tab w2 (some ⟨g, 0, none⟩) (cutT t wi) := ho2.out.tab ((hS1.out.cut (by rw [hl.out]; exact hwi2.out)).ext hE2)
  obtain ⟨R, hR⟩ : ∃ R, cutT t wi = R := ⟨_, rfl⟩
  rw [hR] at hTR hsq hbd hpd
  replace hR := hid hR
  obtain ⟨g', o', B, O, C, e9, hgl, hcc⟩ := hTR.fullC (by have := hsq.out.m; omega) (n := N) (fun i hi => hsq.out.n i (by rw [← hsq.out.m]; exact hi)) (by omega)
  simp only [Option.some.injEq, Addr.mk.injEq, and_true] at e9
  obtain ⟨rfl, rfl⟩ := e9
  have HC : Hid (∀ i, i < N → w2.cell? ⟨g, i, none⟩ = some (.slice (some ⟨B i, O i, none⟩) N (C i)) ∧ Ints w2 (some ⟨B i, O i, none⟩) (row R i) ∧ w2.cell? ⟨B i, O i, none⟩ = some (.int .i64 (ent R i 0)) ∧ N ≤ C i ∧ B i < w2.heap.size) := hid (fun i hi => by
   obtain ⟨p0, p1, p2, p3⟩ := hcc i (by have := hsq.out.m; omega)
   have p4 := p2 0 (by omega)
   rw [Nat.zero_add] at p0
   rw [Nat.add_zero] at p4
   exact ⟨p0, p1, p4, p3, cell_lt p4⟩)
  have hHE2 := hid hE2
  clear hcc hTR ho2 hg2 hS1 ho1 hE1 hE2 hTT hm2 q7
  go_wp2_with fail
  go_loopw [6, 7, 24] (fun s sg i wr => ∃ k : Nat, k ≤ N ∧ i = .int .i64 k ∧ s = .int .i64 (minTo n t wi k) ∧ sg = .int .i64 (sgn k) ∧ Ext w2 wr) (fun _ _ i _ => (N - intOf i).toNat)
  case atStart => exact ⟨0, by omega, rfl, rfl, rfl, Ext.refl _⟩
  case round =>
   obtain ⟨k, hk, rfl, rfl, rfl, hw⟩ := hrel
   by_cases hkl : k < N
   ·have HW := hid hw
    have p0 := hw.cell (HC.out k hkl).1
    obtain ⟨w3, rfl⟩ : ∃ w3 : World, w3 = wr := ⟨_, rfl⟩
    have s3 := hid (Ext.size hw)
    clear hw
    go_wp2_with fail
    go_loopw [10, 31] (fun r i wr => ∃ j : Nat, j ≤ N ∧ i = .int .i64 j ∧ Hid (OwnT wr w3.heap.size 0 25 r (tlTo R j)) ∧ Ext w3 wr) (fun _ i _ => (N - intOf i).toNat)
    case atStart => exact ⟨0, by omega, rfl, hid (OwnT.nil _ _ _ _), Ext.refl _⟩
    case round =>
     obtain ⟨j, hj, rfl, ho, hx⟩ := hrel
     by_cases hjl : j < N
     ·obtain ⟨p1, p2, _, pcap, pB⟩ := HC.out j hjl
      have xw := HW.out.trans hx
      have p1 := xw.cell p1
      have p2 := hid (p2.ext xw)
      have pB := hid pB
      have hrl := hid (hsq.out.n j hjl)
      have hst := hid (show tlTo R (j + 1) = tlTo R j ++ [(row R j).drop 1] from rfl)
      have hct := hid (tlTo_len R j)
      obtain ⟨r, hr⟩ : ∃ r, row R j = r := ⟨_, rfl⟩
      rw [hr] at p2 hrl hst
      replace hr := hid hr
      have hsz := hid (Ext.size hx)
      have hdl : Hid ((r.drop 1).length = N - 1) := hid (by simp [hrl.out])
      have q1 : (1 : Int) ≤ (N : Int) := by omega
      have q4 : (1 : Int) ≤ (C j : Int) := by omega
      have q9 : (N : Int) ≤ (C j : Int) := by omega
      have hck : C j = 1 ∨ ¬ C j = 1 := Classical.em _
      obtain ⟨cj, hcj⟩ : ∃ c, C j = c := ⟨_, rfl⟩
      rw [hcj] at p1 q4 q9 hck pcap
      have hX := hid hx
      rcases hck with hck | hck
      ·subst hck
       have hd0 : Hid ((r.drop 1).length = 0) := hid (by rw [hdl.out]; omega)
       have hI : Hid (Ints wr (some ⟨B j, O j, none⟩) (r.drop 1)) := hid (by rw [List.eq_nil_of_length_eq_zero hd0.out]; exact Ints.nil _ _)
       go_wp2_with (at_builtin; refine app_row rfl _ _ _ rfl 25 Try.underlying22 elemRow w3.heap.size 0 (tlTo R j) u10 rfl _ rfl (ho.out.ext (by repeat (with_reducible first | assumption | exact Ext.refl _ | refine Ext.drew ?_ | refine Ext.drewN ?_ _ | refine Ext.alloc ?_ _ | refine xS ?_ _ | refine xT ?_ (by assumption)))) (r.drop 1) (some ⟨B j, O j, none⟩) 0 0 ?a1 ?a2 ?a3 ?a4 ?a5 ?a6 ?a7 ?_; (case a1 => exact hd0.out.symm); (case a2 => simp [go_sem]); (case a3 => exact hI.out.ext (by repeat (with_reducible first | assumption | exact Ext.refl _ | refine Ext.drew ?_ | refine Ext.drewN ?_ _ | refine Ext.alloc ?_ _ | refine xS ?_ _ | refine xT ?_ (by assumption)))); (case a4 => omega); (case a5 => intro bb oo h0 e; cases e; exact ⟨fun he => by have h7 := (ho.out.block _ he).1; have h8 := pB.out; have h9 := s3.out; omega, by omega⟩); (case a6 => rw [hct.out]; omega); (case a7 => have := hsz.out; simp; omega); intro b9 cp9 w9 own9 g9 at9 hb9; have hE9 : Hid (Ext w3 w9) := hid (Ext.grown (b := _) (by repeat (with_reducible first | assumption | exact Ext.refl _ | refine Ext.drew ?_ | refine Ext.drewN ?_ _ | refine Ext.alloc ?_ _ | refine xS ?_ _ | refine xT ?_ (by assumption))) g9 (fun g hg => (ho.out.block g hg).1)); have own9 := hid own9; clear at9 g9 hb9)
       go_roundw
       case rel => exact ⟨j + 1, by omega, by go_num, hid (by rw [hst.out]; exact own9.out), hE9.out⟩
       case measure => simp [intOf]; omega
      ·have hI : Hid (Ints wr (some ⟨B j, O j + 1, none⟩) (r.drop 1)) := hid (p2.out.drop 1)
       go_wp2_with (at_builtin; refine app_row rfl _ _ _ rfl 25 Try.underlying22 elemRow w3.heap.size 0 (tlTo R j) u10 rfl _ rfl (ho.out.ext (by repeat (with_reducible first | assumption | exact Ext.refl _ | refine Ext.drew ?_ | refine Ext.drewN ?_ _ | refine Ext.alloc ?_ _ | refine xS ?_ _ | refine xT ?_ (by assumption)))) (r.drop 1) (some ⟨B j, O j + 1, none⟩) (N - 1) (cj - 1) ?b1 ?b2 ?b3 ?b4 ?b5 ?b6 ?b7 ?_; (case b1 => exact hdl.out.symm); (case b2 => simp [go_sem]); (case b3 => exact hI.out.ext (by repeat (with_reducible first | assumption | exact Ext.refl _ | refine Ext.drew ?_ | refine Ext.drewN ?_ _ | refine Ext.alloc ?_ _ | refine xS ?_ _ | refine xT ?_ (by assumption)))); (case b4 => omega); (case b5 => intro bb oo h0 e; cases e; exact ⟨fun he => by have h7 := (ho.out.block _ he).1; have h8 := pB.out; have h9 := s3.out; omega, by omega⟩); (case b6 => rw [hct.out]; omega); (case b7 => have := hsz.out; simp; omega); intro b9 cp9 w9 own9 g9 at9 hb9; have hE9 : Hid (Ext w3 w9) := hid (Ext.grown (b := _) (by repeat (with_reducible first | assumption | exact Ext.refl _ | refine Ext.drew ?_ | refine Ext.drewN ?_ _ | refine Ext.alloc ?_ _ | refine xS ?_ _ | refine xT ?_ (by assumption))) g9 (fun g hg => (ho.out.block g hg).1)); have own9 := hid own9; clear at9 g9 hb9)
       go_roundw
       case rel => exact ⟨j + 1, by omega, by go_num, hid (by rw [hst.out]; exact own9.out), hE9.out⟩
       case measure => simp [intOf]; omega
     ·obtain rfl : j = N := by omega
      obtain ⟨ra, rc, rfl, hTR⟩ := ho.out.slice
      have hcl := tlTo_len R j
      rw [hcl]
      have hrc := hid (show Rc n (tlTo R (n + 1)) from (by have h9 := hsq.out; rw [← hN.out] at h9; exact h9.tl))
      have hpb := hbd.out k hkl
      have hpart := hid (hpd.out k)
      have hps := sm_abs (n := k) (f := fun k => sgn k * ent R k 0 * minF n (tlTo R (n + 1)) k) (B := 200 * detB n) fun i hi => by have := hbd.out i (by omega); rw [hN.out]; exact this
      have e0 : (sm k fun k => sgn k * ent R k 0 * minF n (tlTo R (n + 1)) k) = minTo n t wi k := by rw [← hR.out]; rfl
      rw [e0] at hps
      have hsg := sgn_bd k
      have hss := hid (sgn_step k)
      obtain ⟨_, _, p2, _, _⟩ := HC.out k hkl
      have p2 := (HW.out.trans hx).cell p2
      have hb0 := hsq.out.b k 0
      have hib := hid (fun W hW => ih.out (tlTo R (n + 1)) hrc.out k (by rw [hN.out]; exact hkl) ra j rc hN.out.symm W hW)
      rw [hN.out] at hib
      have hTR := hid hTR
      clear ho hcl e0
      have hIX := hid hx
      clear hx
      obtain ⟨x, hx0⟩ : ∃ x, ent R k 0 = x := ⟨_, rfl⟩
      obtain ⟨d, hd0⟩ : ∃ d, minF n (tlTo R j) k = d := ⟨_, rfl⟩
      obtain ⟨s, hs0⟩ : ∃ s, sgn k = s := ⟨_, rfl⟩
      obtain ⟨y, hy0⟩ : ∃ y, minTo n t wi k = y := ⟨_, rfl⟩
      obtain ⟨Q, hQ0⟩ : ∃ Q, 200 * detB n = Q := ⟨_, rfl⟩
      have hQ : Q ≤ 16000000 ∧ 0 ≤ Q := by omega
      have hkQ : (k : Int) * Q ≤ 3 * 16000000 := Int.le_trans (Int.mul_le_mul_of_nonneg_right (show (k : Int) ≤ 3 by omega) hQ.2) (by omega)
      rw [hx0] at p2 hb0 hpb hpart
      rw [hd0] at hpb hpart hib
      rw [hs0] at hsg hss hpb hpart ⊢
      rw [hy0] at hps hpart ⊢
      rw [hQ0] at hpb hps
      have e1 : s * x = x ∨ s * x = -x := by rcases hsg with rfl | rfl <;> omega
      have e2 : -200 ≤ s * x ∧ s * x ≤ 200 := by omega
      have z1 := Go.IntWalk.i64_in (s * x) (by omega)
      have z2 := Go.IntWalk.i64_in (s * x * d) (by omega)
      have z3 := Go.IntWalk.i64_in (y + s * x * d) (by omega)
      have z4 := Go.IntWalk.i64_in (-s) (by omega)
      replace e1 := hid e1
      replace hsg := hid hsg
      clear hB hQ hkQ hps hpb
      go_wp2_with fail
      refine wp_region_held_drew (S := fun w' => w'.cell? ⟨B k, O k, none⟩ = some (.int .i64 x)) (by kernel_rfl) ((show Ext wr wr.drew from (by repeat (with_reducible first | assumption | exact Ext.refl _ | refine Ext.drew ?_ | refine Ext.drewN ?_ _ | refine Ext.alloc ?_ _ | refine xS ?_ _ | refine xT ?_ (by assumption)))).cell p2) fun hHeld => ?_
      refine tkA (i := 0) (v := ?_) rfl (fun _ _ _ h => h) (Or.inl ⟨by rfl, ?yl⟩) (by assumption) ?_
      case yl => (intro w hSw; (try dsimp only at hSw); (try obtain ⟨hSw, hSx⟩ := hSw); go_simp); with_reducible rfl
      try simp only [Act.put, List.setIfInBounds_toArray, List.set_cons_zero, List.set_cons_succ]
      refine tkA (i := 1) (v := ?_) rfl (fun _ _ _ h => h) (Or.inl ⟨by rfl, ?yl⟩) (by assumption) ?_
      case yl => (intro w hSw; (try dsimp only at hSw); (try obtain ⟨hSw, hSx⟩ := hSw); go_simp); with_reducible rfl
      try simp only [Act.put, List.setIfInBounds_toArray, List.set_cons_zero, List.set_cons_succ]
      refine tkA (i := 2) (v := ?_) rfl (fun _ _ _ h => h) (Or.inl ⟨by rfl, ?yl⟩) (by assumption) ?_
      case yl => (intro w hSw; (try dsimp only at hSw); (try obtain ⟨hSw, hSx⟩ := hSw); go_simp); with_reducible rfl
      try simp only [Act.put, List.setIfInBounds_toArray, List.set_cons_zero, List.set_cons_succ]
      refine tkA (i := 3) (v := ?_) rfl (fun _ _ _ h => h) (Or.inl ⟨by rfl, ?yl⟩) (by assumption) ?_
      case yl => (intro w hSw; (try dsimp only at hSw); (try obtain ⟨hSw, hSx⟩ := hSw); go_simp); with_reducible rfl
      try simp only [Act.put, List.setIfInBounds_toArray, List.set_cons_zero, List.set_cons_succ]
      refine tkA (i := 4) (v := ?_) rfl (fun _ _ _ h => h) (Or.inl ⟨by rfl, ?yl⟩) (by assumption) ?_
      case yl => (intro w hSw; (try dsimp only at hSw); (try obtain ⟨hSw, hSx⟩ := hSw); go_simp); with_reducible rfl
      try simp only [Act.put, List.setIfInBounds_toArray, List.set_cons_zero, List.set_cons_succ]
      refine tkA (i := 5) (v := ?_) rfl (fun _ _ _ h => h) (Or.inl ⟨by rfl, ?yl⟩) (by assumption) ?_
      case yl => (intro w hSw; (try dsimp only at hSw); (try obtain ⟨hSw, hSx⟩ := hSw); go_simp); with_reducible rfl
      try simp only [Act.put, List.setIfInBounds_toArray, List.set_cons_zero, List.set_cons_succ]
      refine tkA (i := 6) (v := ?_) rfl (fun _ _ _ h => h) (Or.inl ⟨by rfl, ?yl⟩) (by assumption) ?_
      case yl => (intro w hSw; (try dsimp only at hSw); (try obtain ⟨hSw, hSx⟩ := hSw); go_simp); with_reducible rfl
      try simp only [Act.put, List.setIfInBounds_toArray, List.set_cons_zero, List.set_cons_succ]
      refine tkA (i := 7) (v := ?_) rfl (fun _ _ _ h => h) (Or.inl ⟨by rfl, ?yl⟩) (by assumption) ?_
      case yl => (intro w hSw; (try dsimp only at hSw); (try obtain ⟨hSw, hSx⟩ := hSw); go_simp); with_reducible rfl
      try simp only [Act.put, List.setIfInBounds_toArray, List.set_cons_zero, List.set_cons_succ]
      refine wpAnyH_ready (rs := [8]) (by kernel_rfl) (by simp) ?_
      refine AllReadyH.cons (o := _) rfl (fun K hK => ?_) AllReadyH.nil
      go_simp
      refine (hib.out _ (hTR.out.ext (by repeat (with_reducible first | assumption | exact Ext.refl _ | refine Ext.drew ?_ | refine Ext.drewN ?_ _ | refine Ext.alloc ?_ _ | refine xS ?_ _ | refine xT ?_ (by assumption))))).mono ?_; rintro e w5 ⟨rfl, hE5⟩
      have x5 : Ext wr w5 := (by repeat (with_reducible first | assumption | exact Ext.refl _ | refine Ext.drew ?_ | refine Ext.drewN ?_ _ | refine Ext.alloc ?_ _ | refine xS ?_ _ | refine xT ?_ (by assumption)))
      refine hK.out _ _ (x5.cell p2) (fun hHeld => ?_)
      clear hK K
      try simp only [Act.put, List.setIfInBounds_toArray, List.set_cons_zero, List.set_cons_succ]
      refine tkA (i := 9) (v := ?_) rfl (fun _ _ _ h => h) (Or.inl ⟨by rfl, ?yl⟩) (by assumption) ?_
      case yl => (intro w hSw; (try dsimp only at hSw); (try obtain ⟨hSw, hSx⟩ := hSw); go_simp); with_reducible rfl
      try simp only [Act.put, List.setIfInBounds_toArray, List.set_cons_zero, List.set_cons_succ]
      refine tkA (i := 10) (v := ?_) rfl (fun _ _ _ h => h) (Or.inl ⟨by rfl, ?yl⟩) (by assumption) ?_
      case yl => (intro w hSw; (try dsimp only at hSw); (try obtain ⟨hSw, hSx⟩ := hSw); go_simp); with_reducible rfl
      try simp only [Act.put, List.setIfInBounds_toArray, List.set_cons_zero, List.set_cons_succ]
      refine tkA (i := 11) (v := ?_) rfl (fun _ _ _ h => h) (Or.inl ⟨by rfl, ?yl⟩) (by assumption) ?_
      case yl => (intro w hSw; (try dsimp only at hSw); (try obtain ⟨hSw, hSx⟩ := hSw); go_simp); with_reducible rfl
      try simp only [Act.put, List.setIfInBounds_toArray, List.set_cons_zero, List.set_cons_succ]
      refine wpAnyH_done (by kernel_rfl) ?_ _
      simp only [sxA, sxB, sxC, Act.put, sxD, sxE, sxF]
      clear hHeld
      have hfin5 := hid (show Ext w2 w5 from (by have := HW.out; have := hIX.out; exact (by repeat (with_reducible first | assumption | exact Ext.refl _ | refine Ext.drew ?_ | refine Ext.drewN ?_ _ | refine Ext.alloc ?_ _ | refine xS ?_ _ | refine xT ?_ (by assumption)))))
      clear x5 hE5
      go_wp2_with fail
      all_goals
       go_roundw
       case rel => exact ⟨k + 1, by omega, by go_num, by rw [hpart.out], by rw [hss.out], hfin5.out⟩
       case measure => simp [intOf]; omega
   ·obtain rfl : k = N := by omega
    have hHE := hHE2.out
    go_wp2_with fail
    go_ret
    exact ⟨ret_int (by rw [← hfin.out, hN.out]), (by repeat (with_reducible first | assumption | exact Ext.refl _ | refine Ext.drew ?_ | refine Ext.drewN ?_ _ | refine Ext.alloc ?_ _ | refine xS ?_ _ | refine xT ?_ (by assumption)))⟩

end Go.Proofs.Ytommhgcgaclflaa
namespace Go.Proofs.Ytommhgcgaclflaa
set_option linter.unusedVariables false
set_option linter.unusedSimpArgs false
set_option linter.unusedSectionVars false
set_option linter.unnecessarySimpa false
open Game

theorem ent_cutT_tl (R : List (List Int)) {n i : Nat} (hi : i < n + 1) (a b : Nat) (ha : a < n) : ent (cutT (tlTo R (n + 1)) i) a b = ent R (if a < i then a else a + 1) (b + 1) := by
 unfold ent
 rw [cutT_row (by rw [tlTo_len]; exact hi)]
 have e : ∀ r : List Int, nth (r.drop 1) b = nth r (b + 1) := by
  intro r
  unfold nth
  simp only [List.getD_eq_getElem?_getD]
  rw [List.getElem?_drop, Nat.add_comm 1 b]
 split
 ·rw [tlTo_row R _ _ (by omega), e]
 ·rw [tlTo_row R _ _ (by omega), e]
theorem ent_cutTo {t : List (List Int)} {n k : Nat} (h : ∀ i, i < n + 1 → (row t i).length = n + 1) (hk : k < n + 1) (a b : Nat) (ha : a < n) : ent (cutTo t k n) a b = ent t (a + 1) (if b < k then b else b + 1) := by
 unfold ent
 rw [cutTo_row t k n a ha, cutR_nth (by rw [h (a + 1) (by omega)]; exact hk)]
 split <;> rfl
theorem det1 (t : List (List Int)) : detF 1 t = ent t 0 0 := by simp [detF, sm, sgn]
theorem det2 {t : List (List Int)} (h : ∀ i, i < 2 → (row t i).length = 2) : detF 2 t = ent t 0 0 * ent t 1 1 - ent t 0 1 * ent t 1 0 := by
 rw [show detF 2 t = sm 2 fun k => sgn k * ent t 0 k * detF 1 (cutTo t k 1) from rfl]
 simp only [sm, det1, ent_cutTo h (show 0 < 1 + 1 by omega) 0 0 (by omega), ent_cutTo h (show 1 < 1 + 1 by omega) 0 0 (by omega)]
 simp [sgn]
 grind
theorem cutTo_n {t : List (List Int)} {n k : Nat} (h : ∀ i, i < n + 1 → (row t i).length = n + 1) (hk : k < n + 1) : ∀ i, i < n → (row (cutTo t k n) i).length = n := by
 intro i hi
 rw [cutTo_row t k n i hi]; exact cutR_len (h (i + 1) (by omega)) hk
theorem det3 {t : List (List Int)} (h : ∀ i, i < 3 → (row t i).length = 3) : detF 3 t = ent t 0 0 * (ent t 1 1 * ent t 2 2 - ent t 1 2 * ent t 2 1) - ent t 0 1 * (ent t 1 0 * ent t 2 2 - ent t 1 2 * ent t 2 0) + ent t 0 2 * (ent t 1 0 * ent t 2 1 - ent t 1 1 * ent t 2 0) := by
 rw [show detF 3 t = sm 3 fun k => sgn k * ent t 0 k * detF 2 (cutTo t k 2) from rfl]
 have c0 := cutTo_n (n := 2) (k := 0) h (by omega)
 have c1 := cutTo_n (n := 2) (k := 1) h (by omega)
 have c2 := cutTo_n (n := 2) (k := 2) h (by omega)
 simp only [sm, det2 c0, det2 c1, det2 c2]
 have e : ∀ k, k < 3 → ∀ a b, a < 2 → ent (cutTo t k 2) a b = ent t (a + 1) (if b < k then b else b + 1) := fun k hk a b ha => ent_cutTo h hk a b ha
 simp only [e 0 (by omega) 0 _ (by omega), e 0 (by omega) 1 _ (by omega), e 1 (by omega) 0 _ (by omega), e 1 (by omega) 1 _ (by omega), e 2 (by omega) 0 _ (by omega), e 2 (by omega) 1 _ (by omega)]
 simp [sgn]
 grind
theorem min_det : ∀ q, q ≤ 3 → ∀ t w, Rc q t → w < q + 1 → minF q t w = detF q (cutT t w)
 | 0, _, t, w, _, _ => rfl
 | q + 1, hq, t, w, h, hw => by
  have hR := h.cut hw
  obtain ⟨R, eR⟩ : ∃ R, cutT t w = R := ⟨_, rfl⟩
  have e1 : minF (q + 1) t w = sm (q + 1) fun i => sgn i * ent R i 0 * minF q (tlTo R (q + 1)) i := by rw [← eR]; rfl
  rw [eR] at hR ⊢
  have e2 : (sm (q + 1) fun i => sgn i * ent R i 0 * minF q (tlTo R (q + 1)) i) = sm (q + 1) fun i => sgn i * ent R i 0 * detF q (cutT (tlTo R (q + 1)) i) :=
   sm_congr fun i hi => by rw [min_det q (by omega) _ i hR.tl hi]
  rw [e1, e2]
  have hT : ∀ i, i < q + 1 → Sq q (cutT (tlTo R (q + 1)) i) := fun i hi => hR.tl.cut hi
  have : q = 0 ∨ q = 1 ∨ q = 2 := by omega
  rcases this with rfl | rfl | rfl
  ·simp [sm, detF, sgn]
  ·rw [det2 hR.n]
   simp only [sm, det1, ent_cutT_tl R (show 0 < 1 + 1 by omega) 0 0 (by omega), ent_cutT_tl R (show 1 < 1 + 1 by omega) 0 0 (by omega)]
   simp [sgn]
   grind
  ·rw [det3 hR.n]
   simp only [sm, det2 (hT 0 (by omega)).n, det2 (hT 1 (by omega)).n, det2 (hT 2 (by omega)).n]
   have e : ∀ i, i < 3 → ∀ a b, a < 2 → ent (cutT (tlTo R (2 + 1)) i) a b = ent R (if a < i then a else a + 1) (b + 1) := fun i hi a b ha => ent_cutT_tl R hi a b ha
   simp only [e 0 (by omega) 0 _ (by omega), e 0 (by omega) 1 _ (by omega), e 1 (by omega) 0 _ (by omega), e 1 (by omega) 1 _ (by omega), e 2 (by omega) 0 _ (by omega), e 2 (by omega) 1 _ (by omega)]
   simp [sgn]
   grind

def dTab (A : Nat → Nat → Int) (s c : List Nat) : List (List Int) := s.map fun i => (c.drop 1).map fun v => df A (c.headD 0) i v
def partE (A : Nat → Nat → Int) (s c : List Nat) (i : Nat) : Int := sgn i * detF (s.length - 1) (cutT (dTab A s c) i)
theorem dTab_len (A : Nat → Nat → Int) (s c : List Nat) : (dTab A s c).length = s.length := by simp [dTab]
theorem parts_pc (A : Nat → Nat → Int) (s c : List Nat) (h : s.length = c.length) (h4 : s.length ≤ 4) (h0 : 0 < s.length) : (List.range s.length).map (partE A s c) = pc A s c := by
 match s, c, h, h4, h0 with
 | [a], [u], _, _, _ => simp [partE, pc, detF, sgn, List.range_succ]
 | [a, b], [u, v], _, _, _ => simp [partE, pc, det1, sgn, List.range_succ, dTab, cutT, ent, row, nth]
 | [a, b, c'], [u, v, w], _, _, _ =>
  simp [partE, pc, sgn, List.range_succ, dTab, cutT, d2]
  refine ⟨?_, ?_, ?_⟩
  all_goals
   rw [det2 (by intro i hi; have : i = 0 ∨ i = 1 := by omega
                rcases this with rfl | rfl <;> simp [row])]
   simp [ent, row, nth]
 | [a, b, c', d], [u, v, w, t], _, _, _ =>
  simp [partE, pc, sgn, List.range_succ, dTab, cutT, d3]
  refine ⟨?_, ?_, ?_, ?_⟩
  all_goals
   rw [det3 (by intro i hi; have : i = 0 ∨ i = 1 ∨ i = 2 := by omega
                rcases this with rfl | rfl | rfl <;> simp [row])]
   simp [ent, row, nth]

end Go.Proofs.Ytommhgcgaclflaa
namespace Go.Proofs.Ytommhgcgaclflaa
set_option linter.unusedVariables false
set_option linter.unusedSimpArgs false
set_option linter.unusedSectionVars false
set_option linter.unnecessarySimpa false
open Go Go.RowKit Game
set_option maxRecDepth 100000

theorem take_more {α : Type} (l : List α) (i : Nat) (h : i < l.length) : l.take (i + 1) = l.take i ++ [l[i]] := by
 rw [List.take_add_one, List.getElem?_eq_getElem h]; rfl
theorem getD_at (l : List Nat) (i : Nat) (h : i < l.length) : l.getD i 0 = l[i] := by simp [h]
def dR (A : Nat → Nat → Int) (i : Nat) (c : List Nat) : Nat → List Int
 | 0 => []
 | j + 1 => dR A i c j ++ [df A (c.getD 0 0) i (c.getD (j + 1) 0)]
theorem dR_len (A : Nat → Nat → Int) (i : Nat) (c : List Nat) (j : Nat) : (dR A i c j).length = j := by induction j <;> simp [dR, *]
def dT (A : Nat → Nat → Int) (s c : List Nat) : Nat → List (List Int)
 | 0 => []
 | i + 1 => dT A s c i ++ [dR A (s.getD i 0) c (c.length - 1)]
theorem dT_len (A : Nat → Nat → Int) (s c : List Nat) (i : Nat) : (dT A s c i).length = i := by induction i <;> simp [dT, *]
theorem dR_end (A : Nat → Nat → Int) (i : Nat) (c : List Nat) : dR A i c (c.length - 1) = (c.drop 1).map fun v => df A (c.headD 0) i v := by
 match c with
 | [] => rfl
 | u :: c =>
  have : ∀ j, j ≤ c.length → dR A i (u :: c) j = (c.take j).map fun v => df A u i v := by
   intro j
   induction j with
   | zero => intro _; simp [dR]
   | succ j ih =>
    intro hj
    simp only [dR]
    rw [ih (by omega), take_more c j (by omega), List.map_append, ← getD_at c j (by omega)]
    rfl
  have := this c.length (Nat.le_refl _)
  simpa using this
theorem dT_end (A : Nat → Nat → Int) (s c : List Nat) : dT A s c s.length = dTab A s c := by
 have : ∀ i, i ≤ s.length → dT A s c i = (s.take i).map fun i => (c.drop 1).map fun v => df A (c.headD 0) i v := by
  intro i
  induction i with
  | zero => intro _; simp [dT]
  | succ i ih =>
   intro hi
   simp only [dT]
   rw [ih (by omega), take_more s i (by omega), List.map_append, dR_end, getD_at s i (by omega)]
   rfl
 have := this s.length (Nat.le_refl _)
 simpa [dTab] using this
structure ChoF (t : List (List Int)) (rb cb : Nat) : Prop where
 r : rb < 16
 c : cb < 16
 ch : Ch t.length (wid t) (lst rb) (lst cb)
theorem bits_nth {b : Nat} (hb : b < 16) (i : Nat) : nth (bitsTo b 4) i = ((lst b).getD i 0 : Nat) := by
 rw [bitsTo_lst b hb]
 unfold nth
 simp only [List.getD_eq_getElem?_getD, List.getElem?_map]
 cases h : (lst b)[i]? <;> simp
theorem bits_length {b : Nat} (hb : b < 16) : (bitsTo b 4).length = (lst b).length := by rw [bitsTo_lst b hb, List.length_map]
theorem getD_mem {l : List Nat} {i : Nat} (h : i < l.length) : l.getD i 0 ∈ l := by simp [List.getElem_mem, h]

end Go.Proofs.Ytommhgcgaclflaa
namespace Go.Proofs.Ytommhgcgaclflaa
set_option linter.unusedVariables false
set_option linter.unusedSimpArgs false
set_option linter.unusedSectionVars false
set_option linter.unnecessarySimpa false
open Game

def pf (A : Nat → Nat → Int) (s c : List Nat) : Nat → Nat → Int
 | 0, _ => 0
 | k + 1, r => if r = s.getD k 0 then partE A s c k else pf A s c k r
theorem pf_out (A : Nat → Nat → Int) (s c : List Nat) (r : Nat) : ∀ k, k ≤ s.length → r ∉ s.take k → pf A s c k r = 0
 | 0, _, _ => rfl
 | k + 1, hk, hr => by
  rw [take_more s k (by omega)] at hr
  simp only [List.mem_append, List.mem_singleton, not_or] at hr
  simp only [pf]
  rw [if_neg (by rw [getD_at s k (by omega)]; exact hr.2)]
  exact pf_out A s c r k (by omega) hr.1
theorem pf_at (A : Nat → Nat → Int) (s c : List Nat) (hn : s.Nodup) : ∀ k i, k ≤ s.length → i < k → pf A s c k (s.getD i 0) = partE A s c i
 | k + 1, i, hk, hi => by
  simp only [pf]
  by_cases h : i = k
  ·subst h; rw [if_pos rfl]
  ·have hne : ¬ s.getD i 0 = s.getD k 0 := by
    rw [getD_at s i (by omega), getD_at s k (by omega)]
    intro e
    exact h ((List.getElem_inj hn).1 e)
   rw [if_neg hne]
   exact pf_at A s c hn k i (by omega) (by omega)
theorem put_at : ∀ (s : List Nat) (p : List Int), s.Nodup → s.length = p.length → ∀ i, i < s.length → put s p (s.getD i 0) = nth p i
 | a :: s, y :: p, hn, hl, i, hi => by
  rw [List.nodup_cons] at hn
  cases i with
  | zero => simp [put, nth]
  | succ i =>
   simp only [List.getD_cons_succ, put, nth_succ]
   have hi2 : i < s.length := by simpa using hi
   rw [if_neg (fun e => hn.1 (by rw [← e]; exact getD_mem hi2))]
   exact put_at s p hn.2 (by simpa using hl) i hi2
theorem pc_len (A : Nat → Nat → Int) (s c : List Nat) (h : s.length = c.length) (h4 : s.length ≤ 4) (h0 : 0 < s.length) : (pc A s c).length = s.length := by
 rw [← parts_pc A s c h h4 h0, List.length_map, List.length_range]
theorem pf_end (A : Nat → Nat → Int) (s c : List Nat) (hn : s.Nodup) (h : s.length = c.length) (h4 : s.length ≤ 4) (h0 : 0 < s.length) (r : Nat) : pf A s c s.length r = put s (pc A s c) r := by
 by_cases hr : r ∈ s
 ·obtain ⟨i, hi, rfl⟩ := List.mem_iff_getElem.1 hr
  rw [← getD_at s i hi, pf_at A s c hn _ i (Nat.le_refl _) hi, put_at s _ hn (pc_len A s c h h4 h0).symm i hi, ← parts_pc A s c h h4 h0, nth_map_range _ _ _ hi]
 ·rw [pf_out A s c r _ (Nat.le_refl _) (by rw [List.take_length]; exact hr), put_zero s _ r hr]
theorem dTab_rc {t : List (List Int)} (v : VldT t) {s c : List Nat} (h : s.length = c.length) (h0 : 0 < s.length) : Rc (s.length - 1) (dTab (ent t) s c) := by
 have hrow : ∀ i, i < s.length → row (dTab (ent t) s c) i = (c.drop 1).map fun u => df (ent t) (c.headD 0) (s.getD i 0) u := by
  intro i hi
  rw [row_lt (by rw [dTab_len]; exact hi)]
  simp [dTab, hi]
 refine ⟨by rw [dTab_len]; omega, fun i hi => ?_, fun i k => ?_⟩
 ·rw [hrow i (by omega), List.length_map, List.length_drop]; omega
 ·rw [show ent (dTab (ent t) s c) i k = nth (row (dTab (ent t) s c) i) k from rfl]
  rcases Nat.lt_or_ge i s.length with g | g
  ·rw [hrow i g]
   rcases Nat.lt_or_ge k (c.drop 1).length with g2 | g2
   ·rw [nth_lt (by rw [List.length_map]; exact g2), List.getElem_map]
    have a1 := v.lo (s.getD i 0) (c.drop 1)[k]
    have a2 := v.hi (s.getD i 0) (c.drop 1)[k]
    have a3 := v.lo (s.getD i 0) (c.headD 0)
    have a4 := v.hi (s.getD i 0) (c.headD 0)
    unfold df
    constructor <;> omega
   ·have e0 : nth ((c.drop 1).map fun u => df (ent t) (c.headD 0) (s.getD i 0) u) k = 0 := by
     unfold nth
     rw [List.getD_eq_getElem?_getD, List.getElem?_eq_none (by rw [List.length_map]; exact g2)]
     rfl
    rw [e0]; omega
  ·rw [row_ge (by rw [dTab_len]; exact g)]; simp [nth]
theorem mxTo_congr {f g : Nat → Int} {n : Nat} (h0 : 0 < n) (h : ∀ i, i < n → f i = g i) : mxTo f n = mxTo g n := by
 induction n with
 | zero => omega
 | succ n ih =>
  simp only [mxTo]
  rw [h n (by omega)]
  by_cases hn : 0 < n
  ·rw [ih hn fun i hi => h i (by omega)]
  ·obtain rfl : n = 0 := by omega
   simp only [mxTo]
   rw [h 0 (by omega)]
theorem part_bd {t : List (List Int)} (v : VldT t) {s c : List Nat} (h : s.length = c.length) (h0 : 0 < s.length) (h4 : s.length ≤ 4) {i : Nat} (hi : i < s.length) : -48000000 ≤ partE (ent t) s c i ∧ partE (ent t) s c i ≤ 48000000 := by
 have h1 := det_bd _ _ ((dTab_rc v h h0).cut (w := i) (by omega))
 have hB : detB (s.length - 1) ≤ 48000000 := by
  have : s.length - 1 = 0 ∨ s.length - 1 = 1 ∨ s.length - 1 = 2 ∨ s.length - 1 = 3 := by omega
  rcases this with e | e | e | e <;> rw [e] <;> simp [detB]
 unfold partE
 rcases sgn_bd i with e | e <;> rw [e] <;> constructor <;> omega
theorem pf_bd {t : List (List Int)} (v : VldT t) {s c : List Nat} (h : s.length = c.length) (h0 : 0 < s.length) (h4 : s.length ≤ 4) (r : Nat) : ∀ k, k ≤ s.length → -48000000 ≤ pf (ent t) s c k r ∧ pf (ent t) s c k r ≤ 48000000
 | 0, _ => by simp [pf]
 | k + 1, hk => by
  simp only [pf]
  split
  ·exact part_bd v h h0 h4 (by omega)
  ·exact pf_bd v h h0 h4 r k (by omega)
def rawF (A : Nat → Nat → Int) (s c : List Nat) (r : Nat) : Int := pf A s c s.length r
def negE (A : Nat → Nat → Int) (s c : List Nat) (m : Nat) : Bool := decide (mxTo (rawF A s c) m ≤ 0)
def endF (A : Nat → Nat → Int) (s c : List Nat) (m : Nat) (r : Nat) : Int := if negE A s c m then - rawF A s c r else rawF A s c r
def okE (A : Nat → Nat → Int) (s c : List Nat) (m : Nat) : Bool := decide (0 ≤ mnTo (endF A s c m) m) && decide (0 < mxTo (endF A s c m) m)

end Go.Proofs.Ytommhgcgaclflaa
namespace Go.Proofs.Ytommhgcgaclflaa
set_option linter.unusedVariables false
set_option linter.unusedSimpArgs false
set_option linter.unusedSectionVars false
set_option linter.unnecessarySimpa false
open Game

def bc (b : Nat) : Nat := (lst b).length
def colsTo (r : Nat) : Nat → List (Nat × Nat)
 | 0 => []
 | c + 1 => if bc r = bc c then colsTo r c ++ [(r, c)] else colsTo r c
def rowsTo (n : Nat) : Nat → List (Nat × Nat)
 | 0 => []
 | r + 1 => if r = 0 then [] else rowsTo n r ++ colsTo r (2 ^ n)
def chs (m n : Nat) : List (Nat × Nat) := rowsTo n (2 ^ m)
theorem mem_cols {r c : Nat} {x : Nat × Nat} : x ∈ colsTo r c ↔ x.1 = r ∧ x.2 < c ∧ bc r = bc x.2 := by
 induction c with
 | zero => simp [colsTo]
 | succ c ih =>
  simp only [colsTo]
  split
  ·rename_i h
   rw [List.mem_append, ih, List.mem_singleton]
   constructor
   ·rintro (⟨a, b, d⟩ | rfl)
    ·exact ⟨a, by omega, d⟩
    ·exact ⟨rfl, by simp, h⟩
   ·rintro ⟨a, b, d⟩
    by_cases e : x.2 = c
    ·right; exact Prod.ext a e
    ·left; exact ⟨a, by omega, d⟩
  ·rename_i h
   rw [ih]
   constructor
   ·rintro ⟨a, b, d⟩; exact ⟨a, by omega, d⟩
   ·rintro ⟨a, b, d⟩
    refine ⟨a, ?_, d⟩
    by_cases e : x.2 = c
    ·rw [e] at d; exact absurd d h
    ·omega
theorem mem_rows {n r : Nat} {x : Nat × Nat} : x ∈ rowsTo n r ↔ 1 ≤ x.1 ∧ x.1 < r ∧ x.2 < 2 ^ n ∧ bc x.1 = bc x.2 := by
 induction r with
 | zero => simp [rowsTo]
 | succ r ih =>
  simp only [rowsTo]
  split
  ·rename_i h
   simp; omega
  ·rename_i h
   rw [List.mem_append, ih, mem_cols]
   constructor
   ·rintro (⟨a, b, c, d⟩ | ⟨a, b, c⟩)
    ·exact ⟨a, by omega, c, d⟩
    ·exact ⟨by omega, by omega, b, by rw [a]; exact c⟩
   ·rintro ⟨a, b, c, d⟩
    by_cases e : x.1 = r
    ·right; exact ⟨e, c, by rw [← e]; exact d⟩
    ·left; exact ⟨a, by omega, c, d⟩
theorem mem_chs {m n : Nat} {x : Nat × Nat} : x ∈ chs m n ↔ 1 ≤ x.1 ∧ x.1 < 2 ^ m ∧ x.2 < 2 ^ n ∧ bc x.1 = bc x.2 := mem_rows
theorem cols_nodup (r : Nat) : ∀ c, (colsTo r c).Nodup
 | 0 => by simp [colsTo]
 | c + 1 => by
  simp only [colsTo]
  split
  ·rw [List.nodup_append]
   refine ⟨cols_nodup r c, by simp, fun a ha b hb => ?_⟩
   rw [List.mem_singleton] at hb
   subst hb
   intro e; subst e
   have := (mem_cols.1 ha).2.1
   simp at this
  ·exact cols_nodup r c
theorem rows_nodup (n : Nat) : ∀ r, (rowsTo n r).Nodup
 | 0 => by simp [rowsTo]
 | r + 1 => by
  simp only [rowsTo]
  split
  ·simp
  ·rw [List.nodup_append]
   refine ⟨rows_nodup n r, cols_nodup r _, fun a ha b hb => ?_⟩
   intro e; subst e
   have h1 := (mem_rows.1 ha).2.1
   have h2 := (mem_cols.1 hb).1
   omega
theorem chs_nodup (m n : Nat) : (chs m n).Nodup := rows_nodup n _
theorem pow_le {m : Nat} (h : m ≤ 4) : 2 ^ m ≤ 16 := (by decide : ∀ m, m ≤ 4 → 2 ^ m ≤ 16) m h
theorem lst_len4 (b : Nat) : (lst b).length ≤ 4 := by
 have := List.length_filter_le (fun i => b.testBit i) (List.range 4)
 unfold lst; simpa using this
theorem ch_len4 {m n : Nat} {s c : List Nat} (h : Ch m n s c) (m4 : m ≤ 4) : s.length ≤ 4 := by
 obtain ⟨b, _, rfl⟩ := lst_of h.ss fun i hi => by have := h.sl i hi; omega
 exact lst_len4 b
theorem lst_lt : ∀ m, m ≤ 4 → ∀ b, b < 2 ^ m → ∀ i ∈ lst b, i < m := by decide +kernel
theorem lst_bd : ∀ b, b < 16 → ∀ m, m ≤ 4 → (∀ i ∈ lst b, i < m) → b < 2 ^ m := by decide +kernel
theorem lst_pos : ∀ b, b < 16 → 1 ≤ b → 0 < (lst b).length := by decide +kernel
theorem lst_ss (b : Nat) : (lst b).Pairwise (· < ·) := List.Pairwise.filter _ List.pairwise_lt_range
theorem lst_zero : lst 0 = [] := by decide
theorem bc_pos {b : Nat} (h : b < 16) : 0 < bc b ↔ 1 ≤ b := by
 constructor
 ·intro g
  rcases Nat.eq_zero_or_pos b with rfl | k
  ·simp [bc, lst_zero] at g
  ·exact k
 ·exact fun g => lst_pos b h g
theorem chs_ch {t : List (List Int)} (v : VldT t) {x : Nat × Nat} (h : x ∈ chs t.length (wid t)) : ChoF t x.1 x.2 := by
 have m4 := v.m4; have n4 := v.n4
 obtain ⟨a, b, c, d⟩ := mem_chs.1 h
 have h1 := pow_le m4
 have h2 := pow_le n4
 exact ⟨by omega, by omega, ⟨lst_ss _, lst_ss _, fun i hi => lst_lt _ m4 _ b i hi, fun i hi => lst_lt _ n4 _ c i hi, d, lst_pos _ (by omega) a⟩⟩
theorem ch_chs {m n : Nat} (m4 : m ≤ 4) (n4 : n ≤ 4) {s c : List Nat} (h : Ch m n s c) : ∃ x, x ∈ chs m n ∧ lst x.1 = s ∧ lst x.2 = c := by
 obtain ⟨a, ha, rfl⟩ := lst_of h.ss fun i hi => by have := h.sl i hi; omega
 obtain ⟨b, hb, rfl⟩ := lst_of h.cc fun i hi => by have := h.cl i hi; omega
 refine ⟨(a, b), mem_chs.2 ⟨(bc_pos ha).1 h.pos, lst_bd a ha m m4 h.sl, lst_bd b hb n n4 h.cl, h.eq⟩, rfl, rfl⟩

/-! the plan of a choice -/
theorem put_ab : ∀ (s : List Nat) (p : List Int) (k : Nat), put s (p.map ab) k = ab (put s p k)
 | [], p, k => by simp [put, ab]
 | a :: s, [], k => by simp [put, ab]
 | a :: s, y :: p, k => by
  simp only [put, List.map_cons]
  split
  ·rfl
  ·exact put_ab s p k
theorem put_mem : ∀ (s : List Nat) (p : List Int) (k : Nat), put s p k ≠ 0 → put s p k ∈ p
 | [], p, k, h => by simp [put] at h
 | a :: s, [], k, h => by simp [put] at h
 | a :: s, y :: p, k, h => by
  simp only [put] at h ⊢
  split
  ·simp
  ·rename_i g
   rw [if_neg g] at h
   exact List.mem_cons_of_mem _ (put_mem s p k h)
theorem put_of_mem {s : List Nat} {p : List Int} (hn : s.Nodup) (hl : s.length = p.length) {a : Int} (h : a ∈ p) : ∃ r, r ∈ s ∧ put s p r = a := by
 obtain ⟨i, hi, rfl⟩ := List.mem_iff_getElem.1 h
 refine ⟨s.getD i 0, getD_mem (by omega), ?_⟩
 rw [put_at s p hn hl i (by omega), nth_lt hi]
theorem ab_eq_zero {x : Int} : ab x = 0 ↔ x = 0 := by unfold ab; split <;> omega
theorem ok_iff {A : Nat → Nat → Int} {m n : Nat} {s c : List Nat} (h : Ch m n s c) (m4 : m ≤ 4) : okE A s c m = true ↔ Gd (pc A s c) := by
 have hn := sorted_nodup h.ss
 have h0 : 0 < m := by
  have h1 := h.pos
  have h2 := h.sl (s.getD 0 0) (getD_mem h1)
  omega
 have h4 : s.length ≤ 4 := ch_len4 h m4
 have hl := pc_len A s c h.eq h4 h.pos
 have hr : ∀ r, rawF A s c r = put s (pc A s c) r := fun r => pf_end A s c hn h.eq h4 h.pos r
 obtain ⟨p, hp⟩ : ∃ p, pc A s c = p := ⟨_, rfl⟩
 rw [hp] at hl hr ⊢
 unfold okE
 rw [Bool.and_eq_true, decide_eq_true_eq, decide_eq_true_eq]
 obtain ⟨i1, hi1, e1⟩ := mnTo_at (endF A s c m) h0
 obtain ⟨i2, hi2, e2⟩ := mxTo_at (endF A s c m) h0
 obtain ⟨i3, hi3, e3⟩ := mxTo_at (rawF A s c) h0
 have g1 : ∀ i, i < m → mnTo (endF A s c m) m ≤ endF A s c m i := fun i hi => mnTo_le hi
 have g2 : ∀ i, i < m → endF A s c m i ≤ mxTo (endF A s c m) m := fun i hi => mxTo_ge hi
 have g3 : ∀ i, i < m → rawF A s c i ≤ mxTo (rawF A s c) m := fun i hi => mxTo_ge hi
 have hend : ∀ i, endF A s c m i = if mxTo (rawF A s c) m ≤ 0 then - put s p i else put s p i := fun i => by
  unfold endF negE
  simp only [decide_eq_true_eq, hr]
 simp only [hr] at g3 e3
 simp only [hend] at g1 g2 e1 e2
 obtain ⟨mx, hmx⟩ : ∃ mx, mxTo (rawF A s c) m = mx := ⟨_, rfl⟩
 rw [hmx] at g1 g2 g3 e1 e2 e3
 by_cases hneg : mx ≤ 0
 ·simp only [if_pos hneg] at e1 e2 g1 g2
  constructor
  ·rintro ⟨k1, k2⟩
   refine ⟨⟨put s p i2, put_mem s p i2 (by omega), by omega⟩, ?_⟩
   rintro ⟨_, a, ha, pa⟩
   obtain ⟨r, hrs, rfl⟩ := put_of_mem hn (by omega) ha
   have := g3 r (h.sl r hrs)
   omega
  ·rintro ⟨⟨a, ha, na⟩, hno⟩
   obtain ⟨r, hrs, rfl⟩ := put_of_mem hn (by omega) ha
   have hrm := h.sl r hrs
   have k1 := g3 r hrm
   have k2 := g2 r hrm
   have k3 := g3 i1 hi1
   exact ⟨by omega, by omega⟩
 ·simp only [if_neg hneg] at e1 e2 g1 g2
  have hpos : 0 < put s p i3 := by omega
  constructor
  ·rintro ⟨k1, k2⟩
   refine ⟨⟨put s p i3, put_mem s p i3 (by omega), by omega⟩, ?_⟩
   rintro ⟨⟨a, ha, pa⟩, _⟩
   obtain ⟨r, hrs, rfl⟩ := put_of_mem hn (by omega) ha
   have := g1 r (h.sl r hrs)
   omega
  ·rintro ⟨_, hno⟩
   have k2 := g2 i3 hi3
   refine ⟨?_, by omega⟩
   refine Int.not_lt.1 fun hl0 => hno ⟨⟨put s p i1, put_mem s p i1 (by omega), by omega⟩, put s p i3, put_mem s p i3 (by omega), hpos⟩
theorem end_ev {A : Nat → Nat → Int} {m n : Nat} {s c : List Nat} (h : Ch m n s c) (m4 : m ≤ 4) (hok : okE A s c m = true) {r : Nat} (hr : r < m) : endF A s c m r = ev A s c r := by
 have hn := sorted_nodup h.ss
 have h4 : s.length ≤ 4 := ch_len4 h m4
 unfold okE at hok
 rw [Bool.and_eq_true, decide_eq_true_eq, decide_eq_true_eq] at hok
 have h1 : mnTo (endF A s c m) m ≤ endF A s c m r := mnTo_le hr
 have h2 : 0 ≤ endF A s c m r := by omega
 unfold ev
 rw [put_ab, ← pf_end A s c hn h.eq h4 h.pos r]
 show endF A s c m r = ab (rawF A s c r)
 unfold endF at h2 ⊢
 unfold ab
 split at h2
 ·rename_i g
  rw [if_pos g]; split <;> omega
 ·rename_i g
  rw [if_neg g, if_pos h2]

def planL (t : List (List Int)) (x : Nat × Nat) : List Int := mkL t.length (ev (ent t) (lst x.1) (lst x.2))
def goodB (t : List (List Int)) (x : Nat × Nat) : Bool := okE (ent t) (lst x.1) (lst x.2) t.length
theorem planL_len (t : List (List Int)) (x : Nat × Nat) : (planL t x).length = t.length := mkL_len _ _
theorem planL_nth {t : List (List Int)} {x : Nat × Nat} {r : Nat} (h : r < t.length) : nth (planL t x) r = ev (ent t) (lst x.1) (lst x.2) r := mkL_nth _ h
theorem ab_bd {x B : Int} (h : -B ≤ x ∧ x ≤ B) : 0 ≤ ab x ∧ ab x ≤ B := by unfold ab; split <;> omega
theorem planL_bd {t : List (List Int)} (v : VldT t) {x : Nat × Nat} (hx : x ∈ chs t.length (wid t)) (r : Nat) : 0 ≤ nth (planL t x) r ∧ nth (planL t x) r ≤ 48000000 := by
 have q := chs_ch v hx
 rcases Nat.lt_or_ge r t.length with g | g
 ·rw [planL_nth g]
  unfold ev
  have hn := sorted_nodup q.ch.ss
  have h4 : (lst x.1).length ≤ 4 := by
   have := List.length_filter_le (fun i => x.1.testBit i) (List.range 4)
   unfold lst; simpa using this
  rw [put_ab, ← pf_end (ent t) (lst x.1) (lst x.2) hn q.ch.eq h4 q.ch.pos r]
  exact ab_bd (pf_bd v q.ch.eq q.ch.pos h4 r _ (Nat.le_refl _))
 ·rw [nth_ge (by rw [planL_len]; exact g)]; omega
theorem sm_ext {m : Nat} {f g : Nat → Int} (h : ∀ i, i < m → f i = g i) : sm m f = sm m g := sm_congr h
theorem planL_sum (t : List (List Int)) (x : Nat × Nat) : psum (planL t x) = sm t.length (ev (ent t) (lst x.1) (lst x.2)) := by
 unfold psum
 rw [planL_len]
 exact sm_congr fun i hi => planL_nth hi
theorem good_gp {t : List (List Int)} (v : VldT t) {x : Nat × Nat} (hx : x ∈ chs t.length (wid t)) (hg : goodB t x = true) : Gp (ent t) t.length (wid t) (lst x.1) (lst x.2) := by
 have q := chs_ch v hx
 have hg2 := (ok_iff (A := ent t) q.ch v.m4).1 hg
 refine ⟨q.ch, hg2, ev_pl ?_⟩
 unfold goodB okE at hg
 rw [Bool.and_eq_true, decide_eq_true_eq, decide_eq_true_eq] at hg
 obtain ⟨i, hi, e⟩ := mxTo_at (endF (ent t) (lst x.1) (lst x.2) t.length) (n := t.length) v.m1
 refine ⟨i, hi, ?_⟩
 rw [← end_ev (A := ent t) q.ch v.m4 (by unfold okE; rw [Bool.and_eq_true, decide_eq_true_eq, decide_eq_true_eq]; exact hg) hi, e]
 exact hg.2
theorem gp_good {t : List (List Int)} (v : VldT t) {s c : List Nat} (h : Gp (ent t) t.length (wid t) s c) : ∃ x, x ∈ chs t.length (wid t) ∧ goodB t x = true ∧ lst x.1 = s ∧ lst x.2 = c := by
 obtain ⟨x, hx, rfl, rfl⟩ := ch_chs v.m4 v.n4 h.ch
 exact ⟨x, hx, (ok_iff (A := ent t) h.ch v.m4).2 h.gd, rfl, rfl⟩

structure Pln (t : List (List Int)) (p : List Int) : Prop where
 len : p.length = t.length
 nn : ∀ i, 0 ≤ nth p i
 ps : 0 < psum p
theorem VldP.pln {t : List (List Int)} {p : List Int} (h : VldP p t.length) : Pln t p := ⟨h.len, h.nn, h.ps⟩
theorem planL_vld {t : List (List Int)} (v : VldT t) {x : Nat × Nat} (hx : x ∈ chs t.length (wid t)) (hg : goodB t x = true) : VldP (planL t x) t.length :=
 ⟨planL_len t x, fun i => (planL_bd v hx i).1, fun i => by have := (planL_bd v hx i).2; omega, by rw [planL_sum]; exact (good_gp v hx hg).pl.ps⟩
theorem Pln.pl {t : List (List Int)} {p : List Int} (h : Pln t p) : Pl t.length (nth p) := ⟨fun i _ => h.nn i, by have := h.ps; unfold psum at this; rwa [h.len] at this⟩
theorem Pln.sum {t : List (List Int)} {p : List Int} (h : Pln t p) : psum p = sm t.length (nth p) := by unfold psum; rw [h.len]
theorem Pln.su {t : List (List Int)} (v : VldT t) {p : List Int} (h : Pln t p) : Su (ent t) t.length (wid t) (nth p) (lst_ t p) := by
 have n1 := v.n1
 have e : ∀ k, ag (ent t) t.length (nth p) k = agn t p k := fun k => by unfold agn; rw [h.len]
 refine ⟨fun j hj => ?_, ?_⟩
 ·rw [e]; exact mnTo_le hj
 ·obtain ⟨i, hi, e2⟩ := mnTo_at (agn t p) (n := wid t) (by omega)
  exact ⟨i, hi, by rw [e]; exact e2⟩
theorem plan_su {t : List (List Int)} (v : VldT t) {x : Nat × Nat} (hx : x ∈ chs t.length (wid t)) (hg : goodB t x = true) : Su (ent t) t.length (wid t) (ev (ent t) (lst x.1) (lst x.2)) (lst_ t (planL t x)) := by
 have h := (planL_vld v hx hg).pln.su v
 have e : ∀ j, ag (ent t) t.length (nth (planL t x)) j = ag (ent t) t.length (ev (ent t) (lst x.1) (lst x.2)) j := fun j => sm_congr fun i hi => by rw [planL_nth hi]
 refine ⟨fun j hj => by rw [← e]; exact h.le j hj, ?_⟩
 obtain ⟨j, hj, e2⟩ := h.at_
 exact ⟨j, hj, by rw [← e]; exact e2⟩

def suP (t : List (List Int)) (p : List Int) : Int × Int := (sureN t p, sureD t p)
def leF (a b : Int × Int) : Prop := a.1 * b.2 ≤ b.1 * a.2
theorem su_pos {t : List (List Int)} {p : List Int} (h : 0 < psum p) : 0 < (suP t p).2 := (rat_spec (lst_ t p) h).2.2
theorem su_le {t s : List (List Int)} {p q : List Int} (hp : 0 < psum p) (hq : 0 < psum q) : leF (suP t p) (suP s q) ↔ lst_ t p * psum q ≤ lst_ s q * psum p := by
 obtain ⟨a1, a2, a3⟩ := rat_spec (lst_ t p) hp
 obtain ⟨b1, b2, b3⟩ := rat_spec (lst_ s q) hq
 have ga := gcd_pos (a := lst_ t p) hp
 have gb := gcd_pos (a := lst_ s q) hq
 unfold leF suP sureN sureD
 dsimp only
 generalize (Int.gcd (lst_ t p) (psum p) : Int) = g at *
 generalize (Int.gcd (lst_ s q) (psum q) : Int) = k at *
 generalize ratN (lst_ t p) (psum p) = x at *
 generalize ratD (lst_ t p) (psum p) = y at *
 generalize ratN (lst_ s q) (psum q) = z at *
 generalize ratD (lst_ s q) (psum q) = u at *
 rw [a1, a2, b1, b2]
 have hgk : 0 < g * k := Int.mul_pos ga gb
 rw [show x * g * (u * k) = (x * u) * (g * k) by grind, show z * k * (y * g) = (z * y) * (g * k) by grind]
 constructor
 ·exact fun h => Int.mul_le_mul_of_nonneg_right h (Int.le_of_lt hgk)
 ·exact fun h => Int.le_of_mul_le_mul_right h hgk
theorem su_eq {t s : List (List Int)} {p q : List Int} (hp : 0 < psum p) (hq : 0 < psum q) : suP t p = suP s q ↔ lst_ t p * psum q = lst_ s q * psum p := by
 constructor
 ·intro e
  have h1 := (su_le (t := t) (s := s) hp hq).1 (by unfold leF; rw [e]; exact Int.le_refl _)
  have h2 := (su_le (t := s) (s := t) hq hp).1 (by unfold leF; rw [e]; exact Int.le_refl _)
  omega
 ·intro e
  obtain ⟨h1, h2⟩ := rat_eq hp hq e
  exact Prod.ext h1 h2

def plansOn (t : List (List Int)) (l : List (Nat × Nat)) : List (List Int) := (l.filter (goodB t)).map (planL t)
def upd (v x : Int × Int) : Int × Int := if v.2 = 0 ∨ v.1 * x.2 < x.1 * v.2 then x else v
def valBy (t : List (List Int)) (l : List (List Int)) : Int × Int := l.foldl (fun v p => upd v (suP t p)) (0, 0)
theorem valBy_snoc (t : List (List Int)) (l : List (List Int)) (p : List Int) : valBy t (l ++ [p]) = upd (valBy t l) (suP t p) := by simp [valBy]
theorem plansOn_snoc (t : List (List Int)) (l : List (Nat × Nat)) (x : Nat × Nat) : plansOn t (l ++ [x]) = if goodB t x = true then plansOn t l ++ [planL t x] else plansOn t l := by
 unfold plansOn
 rw [List.filter_append, List.map_append]
 by_cases h : goodB t x = true
 ·rw [if_pos h]; simp [h]
 ·rw [if_neg h]; simp [h]
theorem valBy_step {t : List (List Int)} {l : List (List Int)} {p : List Int} (h : ∀ q ∈ l ++ [p], 0 < psum q) (ih : (l = [] ∧ valBy t l = (0, 0)) ∨ (∃ p, p ∈ l ∧ valBy t l = suP t p ∧ ∀ q, q ∈ l → leF (suP t q) (valBy t l))) :
 ∃ r, r ∈ l ++ [p] ∧ valBy t (l ++ [p]) = suP t r ∧ ∀ q, q ∈ l ++ [p] → leF (suP t q) (valBy t (l ++ [p])) := by
 rw [valBy_snoc]
 have hp := h p (by simp)
 have pp := su_pos (t := t) hp
 rcases ih with ⟨rfl, e⟩ | ⟨q, hq, e, hm⟩
 ·rw [e]
  refine ⟨p, by simp, by simp [upd], fun q hq => ?_⟩
  obtain rfl : q = p := by simpa using hq
  simp [upd, leF]
 ·have hqp := su_pos (t := t) (h q (by simp [hq]))
  rw [← e] at hqp
  by_cases g : (valBy t l).1 * (suP t p).2 < (suP t p).1 * (valBy t l).2
  ·have eu : upd (valBy t l) (suP t p) = suP t p := by unfold upd; rw [if_pos (.inr g)]
   rw [eu]
   refine ⟨p, by simp, rfl, fun r hr => ?_⟩
   rcases List.mem_append.1 hr with hr | hr
   ·have h1 := hm r hr
    have h2 := su_pos (t := t) (h r (by simp [hr]))
    unfold leF at h1 ⊢
    exact ratio_trans (d := (valBy t l).2) hqp h2 pp h1 (Int.le_of_lt g)
   ·obtain rfl : r = p := by simpa using hr
    exact Int.le_refl _
  ·have eu : upd (valBy t l) (suP t p) = valBy t l := by
    unfold upd; rw [if_neg]
    rintro (g2 | g2)
    ·omega
    ·exact g g2
   rw [eu]
   refine ⟨q, by simp [hq], e, fun r hr => ?_⟩
   rcases List.mem_append.1 hr with hr | hr
   ·exact hm r hr
   ·obtain rfl : r = p := by simpa using hr
    unfold leF
    omega
theorem valBy_spec {t : List (List Int)} : ∀ (n : Nat) (l : List (List Int)), l.length = n → (∀ p ∈ l, 0 < psum p) → (l = [] ∧ valBy t l = (0, 0)) ∨ (∃ p, p ∈ l ∧ valBy t l = suP t p ∧ ∀ q, q ∈ l → leF (suP t q) (valBy t l)) := by
 intro n
 induction n with
 | zero => intro l hl _; obtain rfl := List.eq_nil_of_length_eq_zero hl; exact .inl ⟨rfl, rfl⟩
 | succ n ih =>
  intro l hl h
  have hne : l ≠ [] := fun e => by subst e; simp at hl
  have e := List.dropLast_concat_getLast hne
  obtain ⟨k, hk⟩ : ∃ k, l.dropLast = k := ⟨_, rfl⟩
  obtain ⟨p, hp⟩ : ∃ p, l.getLast hne = p := ⟨_, rfl⟩
  rw [hk, hp] at e
  have hkl : k.length = n := by rw [← hk, List.length_dropLast, hl]; rfl
  rw [← e] at h ⊢
  exact .inr (valBy_step h (ih k hkl fun q hq => h q (by simp [hq])))
def val (t : List (List Int)) : Int × Int := valBy t (plansOn t (chs t.length (wid t)))
theorem mem_plansOn {t : List (List Int)} {l : List (Nat × Nat)} {p : List Int} : p ∈ plansOn t l ↔ ∃ x, x ∈ l ∧ goodB t x = true ∧ p = planL t x := by
 unfold plansOn
 simp only [List.mem_map, List.mem_filter]
 constructor
 ·rintro ⟨x, ⟨a, b⟩, rfl⟩; exact ⟨x, a, b, rfl⟩
 ·rintro ⟨x, a, b, rfl⟩; exact ⟨x, ⟨a, b⟩, rfl⟩
theorem le_plan {t : List (List Int)} (v : VldT t) {p : List Int} (h : Pln t p) : ∃ x, x ∈ chs t.length (wid t) ∧ goodB t x = true ∧ leF (suP t p) (suP t (planL t x)) := by
 obtain ⟨s, c, M, g, hs, hle⟩ := even_le v.m4 _ (nth p) (lst_ t p) rfl h.pl (h.su v)
 obtain ⟨x, hx, hg, rfl, rfl⟩ := gp_good v g
 refine ⟨x, hx, hg, (su_le h.ps (planL_vld v hx hg).ps).2 ?_⟩
 rw [planL_sum, (plan_su v hx hg).uniq hs, h.sum]
 exact hle
theorem unit_pln {t : List (List Int)} (v : VldT t) {r : Nat} (hr : r < t.length) : Pln t (mkL t.length fun i => if i = r then 1 else 0) := by
 have hnn : ∀ i, 0 ≤ nth (mkL t.length fun i => if i = r then 1 else 0) i := fun i => by
  rcases Nat.lt_or_ge i t.length with g | g
  ·rw [mkL_nth _ g]; split <;> omega
  ·rw [nth_ge (by rw [mkL_len]; exact g)]; omega
 refine ⟨mkL_len _ _, hnn, ?_⟩
 unfold psum
 refine sm_pos (i := r) (fun i _ => hnn i) (by rw [mkL_len]; exact hr) ?_
 rw [mkL_nth _ hr, if_pos rfl]; omega
theorem val_spec {t : List (List Int)} (v : VldT t) : ∃ x, x ∈ chs t.length (wid t) ∧ goodB t x = true ∧ val t = suP t (planL t x) ∧ ∀ p, Pln t p → leF (suP t p) (val t) := by
 have hpos : ∀ p ∈ plansOn t (chs t.length (wid t)), 0 < psum p := fun p hp => by
  obtain ⟨x, hx, hg, rfl⟩ := mem_plansOn.1 hp
  exact (planL_vld v hx hg).ps
 obtain ⟨x0, hx0, hg0, _⟩ := le_plan v (unit_pln v (r := 0) (by have := v.m1; omega))
 rcases valBy_spec (t := t) _ _ rfl hpos with ⟨e, _⟩ | ⟨p, hp, e, hm⟩
 ·have : planL t x0 ∈ plansOn t (chs t.length (wid t)) := mem_plansOn.2 ⟨x0, hx0, hg0, rfl⟩
  rw [e] at this; cases this
 ·obtain ⟨x, hx, hg, rfl⟩ := mem_plansOn.1 hp
  refine ⟨x, hx, hg, e, fun q hq => ?_⟩
  obtain ⟨y, hy, gy, hle⟩ := le_plan v hq
  have h2 := hm _ (mem_plansOn.2 ⟨y, hy, gy, rfl⟩)
  show leF _ (valBy t _)
  rw [e] at h2 ⊢
  unfold leF at hle h2 ⊢
  exact ratio_trans (su_pos (planL_vld v hy gy).ps) (su_pos hq.ps) (su_pos (planL_vld v hx hg).ps) hle h2
theorem val_pos {t : List (List Int)} (v : VldT t) : 0 < (val t).2 := by
 obtain ⟨x, hx, hg, e, _⟩ := val_spec v
 rw [e]; exact su_pos (planL_vld v hx hg).ps
theorem val_le {t : List (List Int)} (v : VldT t) {p : List Int} (h : Pln t p) : leF (suP t p) (val t) := let ⟨_, _, _, _, q⟩ := val_spec v; q p h
theorem leF_anti {t s : List (List Int)} {p q : List Int} (hp : 0 < psum p) (hq : 0 < psum q) (h : leF (suP t p) (suP s q)) (k : leF (suP s q) (suP t p)) : suP t p = suP s q := by
 have h1 := (su_le hp hq).1 h
 have h2 := (su_le hq hp).1 k
 exact (su_eq hp hq).2 (by omega)
def BestP (t : List (List Int)) (p : List Int) : Prop := Pln t p ∧ suP t p = val t
theorem best_iff {t : List (List Int)} (v : VldT t) {p : List Int} (h : Pln t p) : BestP t p ↔ Best (ent t) t.length (wid t) (nth p) (lst_ t p) := by
 obtain ⟨x, hx, hg, e, _⟩ := val_spec v
 constructor
 ·rintro ⟨_, e2⟩ y M hy hM
  have hq : Pln t (mkL t.length y) := by
   have hnn : ∀ i, 0 ≤ nth (mkL t.length y) i := fun i => by
    rcases Nat.lt_or_ge i t.length with g | g
    ·rw [mkL_nth _ g]; exact hy.nn i g
    ·rw [nth_ge (by rw [mkL_len]; exact g)]; omega
   refine ⟨mkL_len _ _, hnn, ?_⟩
   unfold psum
   rw [mkL_len, sm_congr (g := y) fun i hi => mkL_nth _ hi]
   exact hy.ps
  have h1 := val_le v hq
  rw [← e2] at h1
  have h2 := (su_le hq.ps h.ps).1 h1
  have e3 : lst_ t (mkL t.length y) = M := by
   have k := hq.su v
   refine k.uniq ⟨fun j hj => ?_, ?_⟩
   ·have := hM.le j hj
    unfold ag at this ⊢
    rwa [sm_congr (g := fun i => y i * ent t i j) fun i hi => by rw [mkL_nth _ hi]]
   ·obtain ⟨j, hj, e⟩ := hM.at_
    refine ⟨j, hj, ?_⟩
    unfold ag at e ⊢
    rwa [sm_congr (g := fun i => y i * ent t i j) fun i hi => by rw [mkL_nth _ hi]]
  rw [e3, hq.sum, h.sum, sm_congr (g := y) fun i hi => mkL_nth _ hi] at h2
  exact h2
 ·intro hb
  refine ⟨h, ?_⟩
  have h1 := val_le v h
  rw [e] at h1 ⊢
  have px := (planL_vld v hx hg).ps
  refine leF_anti h.ps px h1 ((su_le px h.ps).2 ?_)
  have := hb _ _ (good_gp v hx hg).pl (plan_su v hx hg)
  rw [planL_sum, h.sum]
  exact this
theorem val_turn {t : List (List Int)} (v : VldT t) : val (turn t) = (-(val t).1, (val t).2) := by
 have n1 := v.n1; have m1 := v.m1
 have v2 := turn_vld v
 obtain ⟨x, hx, hg, e, _⟩ := val_spec v
 obtain ⟨y, hy, gy, f, _⟩ := val_spec v2
 have px := (planL_vld v hx hg)
 have py := (planL_vld v2 hy gy)
 have bx := (best_iff v px.pln).1 ⟨px.pln, e.symm⟩
 have bY := (best_iff v2 py.pln).1 ⟨py.pln, f.symm⟩
 have sx := px.pln.su v
 have sy := py.pln.su v2
 have hl : (turn t).length = wid t := turn_len t
 have hw : wid (turn t) = t.length := turn_wid (by omega)
 have eA : ∀ j i, j < wid t → i < t.length → ent (turn t) j i = tr (ent t) j i := fun j i hj hi => turn_ent hj hi
 have eag : ∀ (q : Nat → Int) i, i < t.length → ag (ent (turn t)) (wid t) q i = ag (tr (ent t)) (wid t) q i := fun q i hi => sm_congr fun j hj => by rw [eA j i hj hi]
 rw [hl, hw] at sy bY
 have sy' : Su (tr (ent t)) (wid t) t.length (nth (planL (turn t) y)) (lst_ (turn t) (planL (turn t) y)) := by
  refine ⟨fun i hi => ?_, ?_⟩
  ·rw [← eag _ i hi]; exact sy.le i hi
  ·obtain ⟨i, hi, k⟩ := sy.at_
   exact ⟨i, hi, by rw [← eag _ i hi]; exact k⟩
 have bY' : Best (tr (ent t)) (wid t) t.length (nth (planL (turn t) y)) (lst_ (turn t) (planL (turn t) y)) := by
  intro q M hq hM
  refine bY q M hq ⟨fun i hi => ?_, ?_⟩
  ·rw [eag _ i hi]; exact hM.le i hi
  ·obtain ⟨i, hi, k⟩ := hM.at_
   exact ⟨i, hi, by rw [eag _ i hi]; exact k⟩
 have ply := py.pln.pl
 rw [hl] at ply
 have hmm := minimax m1 v.m4 n1 v.n4 (ent t) _ _ _ _ px.pln.pl ply sx sy' bx bY'
 rw [e, f]
 have es := py.pln.sum
 rw [hl] at es
 rw [← px.pln.sum, ← es] at hmm
 have h2 := rat_eq (a := lst_ (turn t) (planL (turn t) y)) (b := psum (planL (turn t) y)) (c := - lst_ t (planL t x)) (d := psum (planL t x)) py.ps px.ps (by rw [Int.neg_mul]; omega)
 have h3 : ratN (- lst_ t (planL t x)) (psum (planL t x)) = - ratN (lst_ t (planL t x)) (psum (planL t x)) ∧ ratD (- lst_ t (planL t x)) (psum (planL t x)) = ratD (lst_ t (planL t x)) (psum (planL t x)) := by
  unfold ratN ratD
  rw [Int.neg_gcd]
  refine ⟨?_, rfl⟩
  rw [Int.neg_ediv_of_dvd (Int.gcd_dvd_left ..)]
 exact Prod.ext (h2.1.trans h3.1) (h2.2.trans h3.2)

def bestX (t : List (List Int)) : Nat × Nat := ((chs t.length (wid t)).find? fun x => goodB t x && decide (suP t (planL t x) = val t)).getD (0, 0)
def bestL (t : List (List Int)) : List Int := planL t (bestX t)
theorem bestX_spec {t : List (List Int)} (v : VldT t) : bestX t ∈ chs t.length (wid t) ∧ goodB t (bestX t) = true ∧ suP t (planL t (bestX t)) = val t := by
 obtain ⟨x, hx, hg, e, _⟩ := val_spec v
 unfold bestX
 cases h : (chs t.length (wid t)).find? fun x => goodB t x && decide (suP t (planL t x) = val t) with
 | none =>
  have := List.find?_eq_none.1 h x hx
  simp [hg, e] at this
 | some y =>
  have h1 := List.mem_of_find?_eq_some h
  have h2 := List.find?_some h
  simp only [Bool.and_eq_true, decide_eq_true_eq] at h2
  exact ⟨h1, h2.1, h2.2⟩
theorem bestL_vld {t : List (List Int)} (v : VldT t) : VldP (bestL t) t.length := let ⟨a, b, _⟩ := bestX_spec v; planL_vld v a b
theorem bestL_su {t : List (List Int)} (v : VldT t) : suP t (bestL t) = val t := (bestX_spec v).2.2
theorem bestL_best {t : List (List Int)} (v : VldT t) : BestP t (bestL t) := ⟨(bestL_vld v).pln, bestL_su v⟩

def usedP (t : List (List Int)) (i : Nat) : Bool := (chs t.length (wid t)).any fun x => goodB t x && decide (suP t (planL t x) = val t) && decide (0 < nth (planL t x) i)
theorem usedP_iff {t : List (List Int)} (v : VldT t) {i : Nat} (hi : i < t.length) : usedP t i = true ↔ ∃ p, BestP t p ∧ 0 < nth p i := by
 unfold usedP
 rw [List.any_eq_true]
 constructor
 ·rintro ⟨x, hx, h⟩
  simp only [Bool.and_eq_true, decide_eq_true_eq] at h
  exact ⟨planL t x, ⟨(planL_vld v hx h.1.1).pln, h.1.2⟩, h.2⟩
 ·rintro ⟨p, hb, hp⟩
  obtain ⟨s, c, M, g, hs, he, hev⟩ := even_best v.m4 hi _ (nth p) (lst_ t p) rfl hb.1.pl (hb.1.su v) ((best_iff v hb.1).1 hb) (by omega)
  obtain ⟨x, hx, hg, rfl, rfl⟩ := gp_good v g
  refine ⟨x, hx, ?_⟩
  simp only [Bool.and_eq_true, decide_eq_true_eq]
  refine ⟨⟨hg, ?_⟩, by rw [planL_nth hi]; exact hev⟩
  rw [← hb.2]
  refine (su_eq (planL_vld v hx hg).ps hb.1.ps).2 ?_
  rw [planL_sum, (plan_su v hx hg).uniq hs, hb.1.sum]
  exact he.symm
def usedB (t : List (List Int)) : Nat := (if usedP t 0 then 1 else 0) + (if usedP t 1 then 2 else 0) + (if usedP t 2 then 4 else 0) + (if usedP t 3 then 8 else 0)
theorem bits_of : ∀ a b c d : Bool, ∀ x : Nat, x = (if a then 1 else 0) + (if b then 2 else 0) + (if c then 4 else 0) + (if d then 8 else 0) → x < 16 ∧ x.testBit 0 = a ∧ x.testBit 1 = b ∧ x.testBit 2 = c ∧ x.testBit 3 = d := by
 intro a b c d x hx
 subst hx
 revert a b c d
 decide
theorem usedB_lt (t : List (List Int)) : usedB t < 16 := (bits_of _ _ _ _ _ rfl).1
theorem usedB_bit (t : List (List Int)) {i : Nat} (h : i < 4) : (usedB t).testBit i = usedP t i := by
 obtain ⟨_, h0, h1, h2, h3⟩ := bits_of (usedP t 0) (usedP t 1) (usedP t 2) (usedP t 3) (usedB t) rfl
 match i, h with
 | 0, _ => exact h0
 | 1, _ => exact h1
 | 2, _ => exact h2
 | 3, _ => exact h3
theorem bits_eq : ∀ x y : Nat, x < 16 → y < 16 → (∀ i, i < 4 → x.testBit i = y.testBit i) → x = y := by
 have : ∀ x, x < 16 → ∀ y, y < 16 → (∀ i, i < 4 → x.testBit i = y.testBit i) → x = y := by decide +kernel
 exact fun x y hx hy h => this x hx y hy h
theorem usedP_out {t : List (List Int)} {i : Nat} (h : t.length ≤ i) : usedP t i = false := by
 unfold usedP
 rw [List.any_eq_false]
 intro x hx
 rw [nth_ge (by rw [planL_len]; exact h)]
 simp
theorem usedB_m {t : List (List Int)} (v : VldT t) : bitsTo (usedB t) 4 = bitsTo (usedB t) t.length := by
 have m4 := v.m4
 have h : ∀ k, t.length ≤ k → k ≤ 4 → bitsTo (usedB t) k = bitsTo (usedB t) t.length := by
  intro k
  induction k with
  | zero => intro h1 _; rw [show t.length = 0 by omega]
  | succ k ih =>
   intro h1 h2
   by_cases e : t.length = k + 1
   ·rw [e]
   ·simp only [bitsTo]
    rw [usedB_bit t (by omega), usedP_out (by omega)]
    exact ih (by omega) (by omega)
 exact h 4 m4 (Nat.le_refl _)

/-! bounds -/
theorem planL_psum {t : List (List Int)} (v : VldT t) {x : Nat × Nat} (hx : x ∈ chs t.length (wid t)) : psum (planL t x) ≤ 192000000 := by
 have m4 := v.m4
 have h : psum (planL t x) ≤ sm (planL t x).length (fun _ => 48000000) := sm_le fun i _ => (planL_bd v hx i).2
 have e : ∀ n : Nat, sm n (fun _ => (48000000 : Int)) = 48000000 * (n : Int) := by
  intro n
  induction n with
  | zero => rfl
  | succ n ih => simp only [sm]; rw [ih, Int.natCast_add]; omega
 rw [e, planL_len] at h
 omega
theorem planL_su_bd {t : List (List Int)} (v : VldT t) {x : Nat × Nat} (hx : x ∈ chs t.length (wid t)) (hg : goodB t x = true) : -19200000000 ≤ sureN t (planL t x) ∧ sureN t (planL t x) ≤ 19200000000 ∧ 0 < sureD t (planL t x) ∧ sureD t (planL t x) ≤ 192000000 := by
 have p := planL_vld v hx hg
 have hs := planL_psum v hx
 have n1 := v.n1
 have hb : -19200000000 ≤ lst_ t (planL t x) ∧ lst_ t (planL t x) ≤ 19200000000 := by
  obtain ⟨k, _, e⟩ := mnTo_at (agn t (planL t x)) (n := wid t) (by omega)
  have := agn_bd (p := planL t x) p.nn v.lo v.hi k
  have hps := p.ps
  unfold lst_
  rw [← e]
  omega
 have h1 := ratN_bd p.ps (B := 19200000000) hb.1 hb.2 (by omega)
 have h2 := rat_le (a := lst_ t (planL t x)) p.ps
 have h3 := (rat_spec (lst_ t (planL t x)) p.ps).2.2
 unfold sureN sureD
 omega
theorem valBy_bd {t : List (List Int)} (v : VldT t) {l : List (Nat × Nat)} (h : ∀ x ∈ l, x ∈ chs t.length (wid t)) : (valBy t (plansOn t l) = (0, 0)) ∨ (-19200000000 ≤ (valBy t (plansOn t l)).1 ∧ (valBy t (plansOn t l)).1 ≤ 19200000000 ∧ 0 < (valBy t (plansOn t l)).2 ∧ (valBy t (plansOn t l)).2 ≤ 192000000) := by
 have hpos : ∀ p ∈ plansOn t l, 0 < psum p := fun p hp => by
  obtain ⟨x, hx, hg, rfl⟩ := mem_plansOn.1 hp
  exact (planL_vld v (h x hx) hg).ps
 rcases valBy_spec (t := t) _ _ rfl hpos with ⟨_, e⟩ | ⟨p, hp, e, _⟩
 ·exact .inl e
 ·obtain ⟨x, hx, hg, rfl⟩ := mem_plansOn.1 hp
  rw [e]
  exact .inr (planL_su_bd v (h x hx) hg)

theorem chs_len {m n : Nat} (h : m ≤ 4) (k : n ≤ 4) : (chs m n).length < 300 := by
 have : ∀ m, m ≤ 4 → ∀ n, n ≤ 4 → (chs m n).length < 300 := by decide +kernel
 exact this _ h _ k

end Go.Proofs.Ytommhgcgaclflaa
namespace Go.Proofs.Ytommhgcgaclflaa
set_option linter.unusedVariables false
set_option linter.unusedSimpArgs false
set_option linter.unusedSectionVars false
set_option linter.unnecessarySimpa false
open Game

def nats (l : List Nat) : List Int := l.map Int.ofNat
theorem nats_len (l : List Nat) : (nats l).length = l.length := by simp [nats]
theorem nats_nth (l : List Nat) (i : Nat) : nth (nats l) i = (l.getD i 0 : Nat) := by
 unfold nats nth
 simp only [List.getD_eq_getElem?_getD, List.getElem?_map]
 cases l[i]? <;> simp
theorem nats_inj {l k : List Nat} (h : nats l = nats k) : l = k := by
 refine List.ext_getElem (by rw [← nats_len, h, nats_len]) fun i h1 h2 => ?_
 have h3 := nats_nth l i
 rw [h, nats_nth] at h3
 simp [h1, h2] at h3
 omega
theorem nats_fit {l : List Nat} {B : Nat} (h : ∀ x ∈ l, x < B) (hB : B ≤ 1000) (i : Nat) : I64 (nth (nats l) i) := by
 rw [nats_nth]
 rcases Nat.lt_or_ge i l.length with g | g
 ·have := h _ (getD_mem g); exact ⟨by omega, by omega⟩
 ·have : l.getD i 0 = 0 := by simp [List.getElem?_eq_none g]
  rw [this]; exact ⟨by omega, by omega⟩

def geTo (t : List (List Int)) (r o : Nat) (C : List Nat) : Nat → Bool
 | 0 => true
 | k + 1 => geTo t r o C k && decide (ent t r (C.getD k 0) ≤ ent t o (C.getD k 0))
def mrTo (t : List (List Int)) (r o : Nat) (C : List Nat) (b : Bool) : Nat → Bool
 | 0 => b
 | k + 1 => mrTo t r o C b k || decide (ent t r (C.getD k 0) < ent t o (C.getD k 0))
def btn (t : List (List Int)) (C : List Nat) (r o : Nat) : Bool := geTo t r o C C.length && mrTo t r o C (decide (o < r)) C.length && decide (o ≠ r)
theorem geTo_mono {t : List (List Int)} {r o : Nat} {C : List Nat} {k : Nat} : ∀ n, k ≤ n → geTo t r o C n = true → geTo t r o C k = true
 | 0, h, g => by rw [show k = 0 by omega]; rfl
 | n + 1, h, g => by
  by_cases e : k = n + 1
  ·rw [e]; exact g
  ·simp only [geTo, Bool.and_eq_true] at g
   exact geTo_mono n (by omega) g.1
theorem geTo_iff {t : List (List Int)} {r o : Nat} {C : List Nat} {n : Nat} : geTo t r o C n = true ↔ ∀ k, k < n → ent t r (C.getD k 0) ≤ ent t o (C.getD k 0) := by
 induction n with
 | zero => simp [geTo]
 | succ n ih =>
  simp only [geTo, Bool.and_eq_true, ih, decide_eq_true_eq]
  constructor
  ·rintro ⟨a, b⟩ k hk
   by_cases e : k = n
   ·rw [e]; exact b
   ·exact a k (by omega)
  ·intro h
   exact ⟨fun k hk => h k (by omega), h n (by omega)⟩
theorem mrTo_iff {t : List (List Int)} {r o : Nat} {C : List Nat} {b : Bool} {n : Nat} : mrTo t r o C b n = true ↔ b = true ∨ ∃ k, k < n ∧ ent t r (C.getD k 0) < ent t o (C.getD k 0) := by
 induction n with
 | zero => simp [mrTo]
 | succ n ih =>
  simp only [mrTo, Bool.or_eq_true, ih, decide_eq_true_eq]
  constructor
  ·rintro ((a | ⟨k, hk, e⟩) | e)
   ·exact .inl a
   ·exact .inr ⟨k, by omega, e⟩
   ·exact .inr ⟨n, by omega, e⟩
  ·rintro (a | ⟨k, hk, e⟩)
   ·exact .inl (.inl a)
   ·by_cases h : k = n
    ·rw [h] at e; exact .inr e
    ·exact .inl (.inr ⟨k, by omega, e⟩)
theorem geTo_no {t : List (List Int)} {r o : Nat} {C : List Nat} {k : Nat} (hk : k < C.length) (h : ent t o (C.getD k 0) < ent t r (C.getD k 0)) : btn t C r o = false := by
 unfold btn
 rw [show geTo t r o C C.length = false from Bool.eq_false_iff.2 fun g => by have := geTo_iff.1 g k hk; omega]
 rfl
def spB (t : List (List Int)) (R C : List Nat) (r : Nat) : Bool := R.any fun o => btn t C r o
def spr (t : List (List Int)) (R C : List Nat) : Int := ((R.find? (spB t R C)).map Int.ofNat).getD (-1)

def cutN (l : List Nat) (p : Nat) : List Nat := l.take p ++ l.drop (p + 1)
theorem cutN_len {l : List Nat} {p : Nat} (h : p < l.length) : (cutN l p).length = l.length - 1 := by simp [cutN]; omega
theorem cutN_at {l : List Nat} {p : Nat} (h : p < l.length) (j : Nat) : (cutN l p).getD j 0 = if j < p then l.getD j 0 else l.getD (j + 1) 0 := by
 unfold cutN
 simp only [List.getD_eq_getElem?_getD]
 by_cases hj : j < p
 ·rw [List.getElem?_append_left (by simp; omega), if_pos hj, List.getElem?_take, if_pos hj]
 ·rw [List.getElem?_append_right (by simp; omega), if_neg hj, List.getElem?_drop, List.length_take, Nat.min_eq_left (by omega)]
  congr 2; omega
theorem cutN_mem {l : List Nat} {p x : Nat} (h : x ∈ cutN l p) : x ∈ l := by
 rcases List.mem_append.1 h with h | h
 ·exact List.mem_of_mem_take h
 ·exact List.mem_of_mem_drop h
theorem cutN_ss {l : List Nat} {p : Nat} (h : l.Pairwise (· < ·)) : (cutN l p).Pairwise (· < ·) := by
 unfold cutN
 refine List.Pairwise.sublist ?_ h
 have := List.take_append_drop p l
 conv => rhs; rw [← this]
 refine List.Sublist.append (List.Sublist.refl _) ?_
 rw [← List.drop_drop]
 exact List.drop_sublist _ _
def stepL (t : List (List Int)) (s : List Nat × List Nat) : List Nat × List Nat :=
 if s.1.findIdx (spB t s.1 s.2) < s.1.length then (cutN s.1 (s.1.findIdx (spB t s.1 s.2)), s.2)
 else if s.2.findIdx (spB (turn t) s.2 s.1) < s.2.length then (s.1, cutN s.2 (s.2.findIdx (spB (turn t) s.2 s.1)))
 else s
def leftN (t : List (List Int)) : Nat → List Nat × List Nat
 | 0 => (List.range t.length, List.range (wid t))
 | k + 1 => stepL t (leftN t k)
def leftE (t : List (List Int)) : List Nat × List Nat := leftN t 8
theorem range_bits : ∀ m : Nat, m ≤ 4 → bitsTo (2 ^ m - 1) 4 = nats (List.range m) := by decide +kernel
structure LS (t : List (List Int)) (s : List Nat × List Nat) : Prop where
 rs : s.1.Pairwise (· < ·)
 cs : s.2.Pairwise (· < ·)
 rb : ∀ x ∈ s.1, x < t.length
 cb : ∀ x ∈ s.2, x < wid t
theorem ss_len {l : List Nat} {m : Nat} (h : l.Pairwise (· < ·)) (hb : ∀ x ∈ l, x < m) (m4 : m ≤ 4) : l.length ≤ 4 := by
 obtain ⟨b, _, rfl⟩ := lst_of h fun i hi => by have := hb i hi; omega
 exact lst_len4 b
theorem LS.step {t : List (List Int)} {s : List Nat × List Nat} (h : LS t s) : LS t (stepL t s) := by
 unfold stepL
 split
 ·exact ⟨cutN_ss h.rs, h.cs, fun x hx => h.rb x (cutN_mem hx), h.cb⟩
 ·split
  ·exact ⟨h.rs, cutN_ss h.cs, h.rb, fun x hx => h.cb x (cutN_mem hx)⟩
  ·exact h
theorem LS.left (t : List (List Int)) : ∀ k, LS t (leftN t k)
 | 0 => ⟨List.pairwise_lt_range, List.pairwise_lt_range, fun x hx => List.mem_range.1 hx, fun x hx => List.mem_range.1 hx⟩
 | k + 1 => (LS.left t k).step
theorem left_fix {t : List (List Int)} {k : Nat} (h : stepL t (leftN t k) = leftN t k) : ∀ n, k ≤ n → leftN t n = leftN t k
 | 0, hn => by rw [show k = 0 by omega]
 | n + 1, hn => by
  by_cases e : k = n + 1
  ·rw [e]
  ·show stepL t (leftN t n) = _
   rw [left_fix h n (by omega)]; exact h
theorem findIdx_at {f : Nat → Bool} {l : List Nat} (h : l.findIdx f < l.length) : f (l.getD (l.findIdx f) 0) = true ∧ ∀ j, j < l.findIdx f → f (l.getD j 0) = false := by
 constructor
 ·have := List.findIdx_getElem (w := h)
  simpa [h] using this
 ·intro j hj
  have := List.not_of_lt_findIdx hj
  simpa [show j < l.length by omega] using this
theorem findIdx_no {f : Nat → Bool} {l : List Nat} (h : ¬ l.findIdx f < l.length) : ∀ j, j < l.length → f (l.getD j 0) = false := by
 intro j hj
 have h1 : l.findIdx f = l.length := by have := List.findIdx_le_length (xs := l) (p := f); omega
 have := List.not_of_lt_findIdx (p := f) (xs := l) (i := j) (by omega)
 simpa [hj] using this

end Go.Proofs.Ytommhgcgaclflaa
namespace Go.Proofs.Ytommhgcgaclflaa
set_option linter.unusedVariables false
set_option linter.unusedSimpArgs false
set_option linter.unusedSectionVars false
set_option linter.unnecessarySimpa false
open Go Go.RowKit Game
set_option maxRecDepth 100000


theorem elemIntW : ElemI Try.prog 3 := elemI_mk (by kernel_rfl)

theorem OwnI.ints {w : World} {base : Nat} {e : TypeId} {a : Option Addr} {n cap : Nat} {l : List Int} (h : OwnI w base e (.slice a n cap) l) : Ints w a l := by
 obtain ⟨a', c', e', hI⟩ := h.slice
 cases e'; exact hI
theorem max_mk (g M : Nat) (h0 : 0 < M) (h9 : M ≤ 1000) (f : Nat → Int) (hq : ∀ i, I64 (f i)) (cap : Nat) (w : World) (hI : Ints w (some ⟨g, 0, none⟩) (mkL M f)) :
 Calls Try.prog 116 #[.slice (some ⟨g, 0, none⟩) M cap] w fun e w' => e = .returned (.int .i64 (mxTo f M)) ∧ w = w' := by
 have hl := mkL_len M f
 refine (max_any (some ⟨g, 0, none⟩) cap (mkL M f) M hl.symm w hI (by omega) (by omega) (fun i => ?_)).mono ?_
 ·rcases Nat.lt_or_ge i M with k | k
  ·rw [mkL_nth f k]; exact hq i
  ·rw [nth_ge (by rw [hl]; exact k)]; exact ⟨by omega, by omega⟩
 ·rintro e w' ⟨rfl, rfl⟩
  rw [hl, mxTo_congr h0 fun i hi => mkL_nth f hi]
  exact ⟨rfl, rfl⟩
theorem min_mk (g M : Nat) (h0 : 0 < M) (h9 : M ≤ 1000) (f : Nat → Int) (hq : ∀ i, I64 (f i)) (cap : Nat) (w : World) (hI : Ints w (some ⟨g, 0, none⟩) (mkL M f)) :
 Calls Try.prog 77 #[.slice (some ⟨g, 0, none⟩) M cap] w fun e w' => e = .returned (.int .i64 (mnTo f M)) ∧ w = w' := by
 have hl := mkL_len M f
 refine (min_any (some ⟨g, 0, none⟩) cap (mkL M f) M hl.symm w hI (by omega) (by omega) (fun i => ?_)).mono ?_
 ·rcases Nat.lt_or_ge i M with k | k
  ·rw [mkL_nth f k]; exact hq i
  ·rw [nth_ge (by rw [hl]; exact k)]; exact ⟨by omega, by omega⟩
 ·rintro e w' ⟨rfl, rfl⟩
  rw [hl, mnTo_congr h0 fun i hi => mkL_nth f hi]
  exact ⟨rfl, rfl⟩
def ngF (f : Nat → Int) (k r : Nat) : Int := if r < k then - f r else f r
theorem ngF_zero (f : Nat → Int) : ngF f 0 = f := by funext r; unfold ngF; rw [if_neg (by omega)]
theorem ngF_step (f : Nat → Int) (k : Nat) : (fun r => if r = k then - f k else ngF f k r) = ngF f (k + 1) := by
 funext r
 unfold ngF
 by_cases h : r = k
 ·subst h; rw [if_pos rfl, if_pos (by omega)]
 ·rw [if_neg h]
  by_cases g : r < k
  ·rw [if_pos g, if_pos (by omega)]
  ·rw [if_neg g, if_neg (by omega)]
theorem ngF_at (f : Nat → Int) (k : Nat) : ngF f k k = f k := by unfold ngF; rw [if_neg (by omega)]


set_option maxHeartbeats 8000000 in
theorem even_any (t : List (List Int)) (v : VldT t) (rb cb : Nat) (q : ChoF t rb cb) (D : Nat) (w : World) (hD : Dsk w D t) :
 Calls Try.prog 110 #[.pointer (some ⟨D, 0, none⟩), .agg #[.int .i64 rb, .int .i64 cb]] w fun e w' => ∃ g, e = .returned (.tuple #[.slice (some ⟨g, 0, none⟩) t.length t.length, .bool (okE (ent t) (lst rb) (lst cb) t.length)]) ∧
  OwnI w' w.heap.size 2 (.slice (some ⟨g, 0, none⟩) t.length t.length) (mkL t.length (endF (ent t) (lst rb) (lst cb) t.length)) ∧ Ext w w' := by
 have m1 := v.m1; have m4 := v.m4; have n1 := v.n1; have n4 := v.n4
 obtain ⟨a, cap, hc, hT⟩ := hD
 obtain ⟨b, off, B, O, C, rfl, hb, hcc⟩ := hT.fullC (by omega) v.eq (by omega)
 have HC := hid hcc
 have hDc := hid hc
 have hDl := cell_lt hc
 simp only at hDl
 have hlr := hid (fun W => listed_own rb q.r W)
 have hlc := hid (fun W => listed_own cb q.c W)
 have hbr := hid (bits_length q.r)
 have hbc := hid (bits_length q.c)
 have hnr := hid (fun i => bits_nth q.r i)
 have hnc := hid (fun i => bits_nth q.c i)
 obtain ⟨s, hs⟩ : ∃ s, lst rb = s := ⟨_, rfl⟩
 obtain ⟨c, hcs⟩ : ∃ c, lst cb = c := ⟨_, rfl⟩
 have hch := hid q.ch
 rw [hs, hcs] at hch ⊢
 rw [hs] at hbr hnr
 rw [hcs] at hbc hnc
 obtain ⟨sI, hsI⟩ : ∃ s, bitsTo rb 4 = s := ⟨_, rfl⟩
 obtain ⟨cI, hcI⟩ : ∃ c, bitsTo cb 4 = c := ⟨_, rfl⟩
 rw [hsI] at hbr hnr hlr
 rw [hcI] at hbc hnc hlc
 obtain ⟨n, hn⟩ : ∃ n, s.length = n := ⟨_, rfl⟩
 have hcn : c.length = n := by rw [← hch.out.eq, hn]
 rw [hn] at hbr
 rw [hcn] at hbc
 rw [hbr.out] at hlr
 rw [hbc.out] at hlc
 have hn1 : 1 ≤ n := by have := hch.out.pos; omega
 have hn4 : Hid (n ≤ 4) := hid (by have := bitsTo_len rb 4; rw [hsI, hbr.out] at this; exact this)
 obtain ⟨M, hM⟩ : ∃ M, t.length = M := ⟨_, rfl⟩
 rw [hM] at hDc m1 m4 HC ⊢
 replace hM := hid hM
 have hsl : Hid (∀ i, i < n → s.getD i 0 < M) := hid (fun i hi => by rw [← hM.out]; exact hch.out.sl _ (getD_mem (by omega)))
 have hcl : Hid (∀ i, i < n → c.getD i 0 < wid t) := hid (fun i hi => hch.out.cl _ (getD_mem (by omega)))
 replace hn := hid hn
 replace hcn := hid hcn
 have hvv := hid v
 clear hc hT hcc hs hcs hsI hcI q v
 go_enter Try.func110, Try.ntmps110
 go_wp2_with fail
 refine wp_region_held_drew (S := fun w' => w'.cell? ⟨w.heap.size, 0, none⟩ = some (.int .i64 rb) ∧ w'.cell? ⟨w.heap.size, 1, none⟩ = some (.int .i64 cb)) (by kernel_rfl) ⟨by simp [go_sem], by simp [go_sem]⟩ fun hHeld => ?_
 refine tkA (i := 0) (v := ?_) rfl (fun _ _ _ h => h) (Or.inl ⟨by rfl, ?yl⟩) (by assumption) ?_
 case yl => (intro w hSw; (try dsimp only at hSw); (try obtain ⟨hSw, hSx⟩ := hSw); go_simp); with_reducible rfl
 try simp only [Act.put, List.setIfInBounds_toArray, List.set_cons_zero, List.set_cons_succ]
 refine tkA (i := 1) (v := ?_) rfl (fun _ _ _ h => h) (Or.inl ⟨by rfl, ?yl⟩) (by assumption) ?_
 case yl => (intro w hSw; (try dsimp only at hSw); (try obtain ⟨hSw, hSx⟩ := hSw); go_simp); with_reducible rfl
 try simp only [Act.put, List.setIfInBounds_toArray, List.set_cons_zero, List.set_cons_succ]
 refine tkA (i := 3) (v := ?_) rfl (fun _ _ _ h => h) (Or.inl ⟨by rfl, ?yl⟩) (by assumption) ?_
 case yl => (intro w hSw; (try dsimp only at hSw); (try obtain ⟨hSw, hSx⟩ := hSw); go_simp); with_reducible rfl
 try simp only [Act.put, List.setIfInBounds_toArray, List.set_cons_zero, List.set_cons_succ]
 refine tkA (i := 4) (v := ?_) rfl (fun _ _ _ h => h) (Or.inl ⟨by rfl, ?yl⟩) (by assumption) ?_
 case yl => (intro w hSw; (try dsimp only at hSw); (try obtain ⟨hSw, hSx⟩ := hSw); go_simp); with_reducible rfl
 try simp only [Act.put, List.setIfInBounds_toArray, List.set_cons_zero, List.set_cons_succ]
 refine wpAnyH_ready (rs := [2]) (by kernel_rfl) (by simp) ?_
 refine AllReadyH.cons (o := _) rfl (fun K hK => ?_) AllReadyH.nil
 go_simp
 refine (hlr.out _).mono ?_; rintro e w1 ⟨ar, cr, rfl, ho1, hE1⟩
 have x1 : Ext w w1 := (by repeat (with_reducible first | assumption | exact Ext.refl _ | refine Ext.drew ?_ | refine Ext.drewN ?_ _ | refine Ext.alloc ?_ _ | refine xS ?_ _ | refine xT ?_ (by assumption)))
 have s1 := hid (Ext.trans (show Ext (w.alloc (.cells #[.int .i64 rb, .int .i64 cb] 106)) (w.alloc (.cells #[.int .i64 rb, .int .i64 cb] 106)).drew from (by repeat (with_reducible first | assumption | exact Ext.refl _ | refine Ext.drew ?_ | refine Ext.drewN ?_ _ | refine Ext.alloc ?_ _ | refine xS ?_ _ | refine xT ?_ (by assumption)))) hE1)
 refine hK.out _ _ ⟨s1.out.cell (by simp [go_sem]), s1.out.cell (by simp [go_sem])⟩ (fun hHeld => ?_)
 clear hK K
 try simp only [Act.put, List.setIfInBounds_toArray, List.set_cons_zero, List.set_cons_succ]
 refine wpAnyH_ready (rs := [5]) (by kernel_rfl) (by simp) ?_
 refine AllReadyH.cons (o := _) rfl (fun K hK => ?_) AllReadyH.nil
 go_simp
 refine (hlc.out _).mono ?_; rintro e w2 ⟨ac, cc, rfl, ho2, hE2⟩
 have x2 : Ext w w2 := (by repeat (with_reducible first | assumption | exact Ext.refl _ | refine Ext.drew ?_ | refine Ext.drewN ?_ _ | refine Ext.alloc ?_ _ | refine xS ?_ _ | refine xT ?_ (by assumption)))
 refine hK.out _ _ ⟨hE2.cell (s1.out.cell (by simp [go_sem])), hE2.cell (s1.out.cell (by simp [go_sem]))⟩ (fun hHeld => ?_)
 clear hK K
 try simp only [Act.put, List.setIfInBounds_toArray, List.set_cons_zero, List.set_cons_succ]
 refine tkA (i := 6) (v := ?_) rfl (fun _ _ _ h => h) (Or.inl ⟨by rfl, ?yl⟩) (by assumption) ?_
 case yl => (intro w hSw; (try dsimp only at hSw); (try obtain ⟨hSw, hSx⟩ := hSw); go_simp); with_reducible rfl
 try simp only [Act.put, List.setIfInBounds_toArray, List.set_cons_zero, List.set_cons_succ]
 refine tkA (i := 7) (v := ?_) rfl (fun _ _ _ h => h) (Or.inl ⟨by rfl, ?yl⟩) (by assumption) ?_
 case yl => (intro w hSw; (try dsimp only at hSw); (try obtain ⟨hSw, hSx⟩ := hSw); go_simp); with_reducible rfl
 try simp only [Act.put, List.setIfInBounds_toArray, List.set_cons_zero, List.set_cons_succ]
 refine wpAnyH_done (by kernel_rfl) ?_ _
 simp only [sxA, sxB, sxC, Act.put, sxD, sxE, sxF]
 clear hHeld
 have hcr := ho1.cap.2
 have hcc := ho2.cap.2
 obtain ⟨ar', cr', e1, hI1⟩ := ho1.slice
 obtain ⟨ac', cc', e2, hI2⟩ := ho2.slice
 simp only [Value.slice.injEq] at e1 e2
 obtain ⟨rfl, -, rfl⟩ := e1
 obtain ⟨rfl, -, rfl⟩ := e2
 obtain ⟨Br, Ow, rfl, hBr, hr0⟩ := hI1.at (by rw [hbr.out]; omega)
 obtain ⟨Bc, Oc, rfl, hBc, hc0⟩ := hI2.at (by rw [hbc.out]; omega)
 have HR : Hid (∀ i, i < n → w2.cell? ⟨Br, Ow + i, none⟩ = some (.int .i64 (s.getD i 0 : Nat))) := hid (fun i hi => by
  have := hE2.cell (hr0 i (by rw [hbr.out]; exact hi))
  rw [hnr.out] at this; exact this)
 have HCc : Hid (∀ i, i < n → w2.cell? ⟨Bc, Oc + i, none⟩ = some (.int .i64 (c.getD i 0 : Nat))) := hid (fun i hi => by
  have := hc0 i (by rw [hbc.out]; exact hi)
  rw [hnc.out] at this; exact this)
 have X2 := hid x2
 clear hI1 hI2 ho1 ho2 hE1 hE2 x1 x2 s1 hr0 hc0 hBr hBc
 go_wp2_with fail
 go_loopw [8, 27] (fun r i wr => ∃ k : Nat, k ≤ n ∧ i = .int .i64 k ∧ Hid (OwnT wr w2.heap.size w2.heap.size 25 r (dT (ent t) s c k)) ∧ Ext w2 wr) (fun _ i _ => (n - intOf i).toNat)
 case atStart => exact ⟨0, by omega, rfl, hid (OwnT.nil _ _ _ _), Ext.refl _⟩
 case round =>
  obtain ⟨k, hk, rfl, hoT, hw⟩ := hrel
  by_cases hkl : k < n
  ·obtain ⟨w3, rfl⟩ : ∃ w3 : World, w3 = wr := ⟨_, rfl⟩
   have HW := hid hw
   have p0 := hw.cell (HR.out k hkl)
   have hsi := hid (hsl.out k hkl)
   have hst := hid (show dT (ent t) s c (k + 1) = dT (ent t) s c k ++ [dR (ent t) (s.getD k 0) c (c.length - 1)] from rfl)
   rw [hcn.out] at hst
   have hct := hid (dT_len (ent t) s c k)
   obtain ⟨si, hsi0⟩ : ∃ x, s.getD k 0 = x := ⟨_, rfl⟩
   rw [hsi0] at p0 hsi hst
   replace hsi0 := hid hsi0
   have s3 := hid (Ext.size hw)
   have c1 : (1 : Int) ≤ (n : Int) := by omega
   have c2 : (1 : Int) ≤ (cc : Int) := by omega
   have c3 : (n : Int) ≤ (cc : Int) := by omega
   have hck : cc = 1 ∨ ¬ cc = 1 := Classical.em _
   clear hw
   rcases hck with hck | hck
   ·subst hck
    have hp3 : Hid (∀ j, j < 0 → w2.cell? ⟨Bc, Oc + j, none⟩ = some (.int .i64 (c.getD (j + 1) 0 : Nat))) := hid (fun j hj => absurd hj (by omega))
    have hN1 := hid (show n - 1 = 0 by omega)
    go_wp2_with fail
    (try replace hN1 := hid hN1)
    go_loopw [11, 34] (fun l j wr => ∃ k : Nat, k ≤ 0 ∧ j = .int .i64 k ∧ Hid (OwnI wr w3.heap.size 2 l (dR (ent t) si c k)) ∧ Ext w3 wr) (fun _ j _ => (0 - intOf j).toNat)
    case atStart => exact ⟨0, by omega, rfl, hid (OwnI.nil _ _ _), Ext.refl _⟩
    case round =>
     obtain ⟨j, hj, rfl, ho, hx⟩ := hrel
     by_cases hjl : j < 0
     ·exact absurd hjl (by omega)
     ·have hfull := hid (show dR (ent t) si c j = dR (ent t) si c (n - 1) by rw [show j = n - 1 by have := hN1.out; omega])
      have hqn : ¬ ((j : Int) < ((0 : Nat) : Int)) := by omega
      obtain ⟨la, lc, rfl, hLI⟩ := ho.out.slice
      have hlcap := hid ho.out.cap.2
      have hlb := hid ho.out.block
      rw [hfull.out] at hlcap hlb hLI
      rw [hfull.out]
      have hll := hid (dR_len (ent t) si c (n - 1))
      obtain ⟨R, hR⟩ : ∃ R, dR (ent t) si c (n - 1) = R := ⟨_, rfl⟩
      rw [hR] at hlcap hlb hLI hst hll
      rw [hR]
      have hLI := hid hLI
      have hX := hid hx
      have hsz := hid (Ext.size hx)
      clear ho hx hR
      have u2 := Go.IntWalk.i64_in ((k : Int) + 1) (by have h4 := hn4.out; omega)
      go_wp2_with (at_builtin; refine app_row rfl _ _ _ rfl 25 Try.underlying22 elemRowS w2.heap.size w2.heap.size (dT (ent t) s c k) u8 rfl _ rfl (hoT.out.ext (by have := hX.out; exact (by repeat (with_reducible first | assumption | exact Ext.refl _ | refine Ext.drew ?_ | refine Ext.drewN ?_ _ | refine Ext.alloc ?_ _ | refine xS ?_ _ | refine xT ?_ (by assumption))))) R la R.length lc rfl ?a4 ?a5 hlcap.out ?a6 ?a7 ?a8 ?_; (case a4 => simp [go_sem]); (case a5 => exact hLI.out.ext (by repeat (with_reducible first | assumption | exact Ext.refl _ | refine Ext.drew ?_ | refine Ext.drewN ?_ _ | refine Ext.alloc ?_ _ | refine xS ?_ _ | refine xT ?_ (by assumption)))); (case a6 => intro bb oo h0 e; subst e; have z1 := (hlb.out bb (by simp [Value.ownBlock])).1; have z3 := s3.out; exact ⟨fun he => by have := (hoT.out.block bb he).2; omega, by omega⟩); (case a7 => rw [hct.out]; have := hn4.out; omega); (case a8 => have := hsz.out; have := s3.out; simp; omega); intro b9 cp9 w9 own9 g9 at9 hb9; have hE9 : Hid (Ext w2 w9) := hid (Ext.grown (by have := hX.out; have := HW.out; exact (by repeat (with_reducible first | assumption | exact Ext.refl _ | refine Ext.drew ?_ | refine Ext.drewN ?_ _ | refine Ext.alloc ?_ _ | refine xS ?_ _ | refine xT ?_ (by assumption)))) g9 (fun g hg => (hoT.out.block g hg).1)); have own9 := hid own9; clear at9 g9 hb9)
      go_roundw
      case rel => exact ⟨k + 1, by omega, by go_num, hid (by rw [hst.out]; exact own9.out), hE9.out⟩
      case measure => simp [intOf]; omega
   ·obtain ⟨N1, hN1⟩ : ∃ N1, n - 1 = N1 := ⟨_, rfl⟩
    have hp3 : Hid (∀ j, j < N1 → w2.cell? ⟨Bc, Oc + 1 + j, none⟩ = some (.int .i64 (c.getD (j + 1) 0 : Nat))) := hid (fun j hj => by
     have := HCc.out (j + 1) (by omega)
     rw [← this]; congr 2; omega)
    go_wp2_with fail
    (try replace hN1 := hid hN1)
    go_loopw [11, 34] (fun l j wr => ∃ k : Nat, k ≤ N1 ∧ j = .int .i64 k ∧ Hid (OwnI wr w3.heap.size 2 l (dR (ent t) si c k)) ∧ Ext w3 wr) (fun _ j _ => (N1 - intOf j).toNat)
    case atStart => exact ⟨0, by omega, rfl, hid (OwnI.nil _ _ _), Ext.refl _⟩
    case round =>
     obtain ⟨j, hj, rfl, ho, hx⟩ := hrel
     by_cases hjl : j < N1
     ·have hX := hid hx
      have xw := HW.out.trans hx
      have xxw := X2.out.trans HW.out
      have x3 := HW.out
      have r0 := xxw.cell hDc.out
      obtain ⟨r1, _, r2, _⟩ := HC.out si hsi.out
      have r1 := xxw.cell r1
      have g1 := hcl.out (j + 1) (by have := hN1.out; omega)
      have g0 := hcl.out 0 (by omega)
      have r3 := xw.cell (hp3.out j hjl)
      have r4 := x3.cell (HCc.out 0 (by omega))
      have r5 := xxw.cell (r2 _ g1)
      have r6 := xxw.cell (r2 _ g0)
      have y1 := And.intro (hvv.out.lo si (c.getD (j + 1) 0)) (hvv.out.hi si (c.getD (j + 1) 0))
      have y0 := And.intro (hvv.out.lo si (c.getD 0 0)) (hvv.out.hi si (c.getD 0 0))
      have hsr := hid (show dR (ent t) si c (j + 1) = dR (ent t) si c j ++ [ent t si (c.getD (j + 1) 0) - ent t si (c.getD 0 0)] from rfl)
      have hlr := hid (dR_len (ent t) si c j)
      rw [Nat.add_zero] at r4
      obtain ⟨cj, hcj⟩ : ∃ x, c.getD (j + 1) 0 = x := ⟨_, rfl⟩
      obtain ⟨c0, hc0⟩ : ∃ x, c.getD 0 0 = x := ⟨_, rfl⟩
      rw [hcj] at g1 r3 r5 y1 hsr
      rw [hc0] at g0 r4 r6 y0 hsr
      obtain ⟨x, hx0⟩ : ∃ x, ent t si cj = x := ⟨_, rfl⟩
      obtain ⟨y, hy0⟩ : ∃ y, ent t si c0 = y := ⟨_, rfl⟩
      rw [hx0] at r5 y1 hsr
      rw [hy0] at r6 y0 hsr
      have z1 := Go.IntWalk.i64_in (x - y) (by omega)
      obtain ⟨W, hWd⟩ : ∃ W, wid t = W := ⟨_, rfl⟩
      rw [hWd] at r1 g1 g0
      have h9 := hsi.out
      have h8 : 0 < n := by omega
      have h7 : (0 : Int) < (n : Int) := by omega
      clear xw xxw x3 r2 hx hcj hc0 hx0 hy0 hWd y1 y0
      go_wp2_with fail
      refine wp_region_held_drew (S := fun w' => w'.cell? ⟨D, 0, none⟩ = some (.slice (some ⟨b, off, none⟩) M cap) ∧ w'.cell? ⟨b, off + si, none⟩ = some (.slice (some ⟨B si, O si, none⟩) W (C si)) ∧ w'.cell? ⟨Bc, Oc, none⟩ = some (.int .i64 c0) ∧ w'.cell? ⟨B si, O si + cj, none⟩ = some (.int .i64 x) ∧ w'.cell? ⟨B si, O si + c0, none⟩ = some (.int .i64 y)) (by kernel_rfl) (by have hX := hX.out; exact ⟨(show Ext w3 wr.drew from (by repeat (with_reducible first | assumption | exact Ext.refl _ | refine Ext.drew ?_ | refine Ext.drewN ?_ _ | refine Ext.alloc ?_ _ | refine xS ?_ _ | refine xT ?_ (by assumption)))).cell r0, (show Ext w3 wr.drew from (by repeat (with_reducible first | assumption | exact Ext.refl _ | refine Ext.drew ?_ | refine Ext.drewN ?_ _ | refine Ext.alloc ?_ _ | refine xS ?_ _ | refine xT ?_ (by assumption)))).cell r1, (show Ext w3 wr.drew from (by repeat (with_reducible first | assumption | exact Ext.refl _ | refine Ext.drew ?_ | refine Ext.drewN ?_ _ | refine Ext.alloc ?_ _ | refine xS ?_ _ | refine xT ?_ (by assumption)))).cell r4, (show Ext w3 wr.drew from (by repeat (with_reducible first | assumption | exact Ext.refl _ | refine Ext.drew ?_ | refine Ext.drewN ?_ _ | refine Ext.alloc ?_ _ | refine xS ?_ _ | refine xT ?_ (by assumption)))).cell r5, (show Ext w3 wr.drew from (by repeat (with_reducible first | assumption | exact Ext.refl _ | refine Ext.drew ?_ | refine Ext.drewN ?_ _ | refine Ext.alloc ?_ _ | refine xS ?_ _ | refine xT ?_ (by assumption)))).cell r6⟩) fun hHeld => ?_
      refine tkA (i := 0) (v := ?_) rfl (fun _ _ _ h => h) (Or.inl ⟨by rfl, ?yl⟩) (by assumption) ?_
      case yl => (intro w hSw; (try dsimp only at hSw); (try obtain ⟨k1, k2, k3, k4, k5⟩ := hSw); go_simp); with_reducible rfl
      try simp only [Act.put, List.setIfInBounds_toArray, List.set_cons_zero, List.set_cons_succ]
      refine tkA (i := 1) (v := ?_) rfl (fun _ _ _ h => h) (Or.inl ⟨by rfl, ?yl⟩) (by assumption) ?_
      case yl => (intro w hSw; (try dsimp only at hSw); (try obtain ⟨k1, k2, k3, k4, k5⟩ := hSw); go_simp); with_reducible rfl
      try simp only [Act.put, List.setIfInBounds_toArray, List.set_cons_zero, List.set_cons_succ]
      refine tkA (i := 2) (v := ?_) rfl (fun _ _ _ h => h) (Or.inl ⟨by rfl, ?yl⟩) (by assumption) ?_
      case yl => (intro w hSw; (try dsimp only at hSw); (try obtain ⟨k1, k2, k3, k4, k5⟩ := hSw); go_simp); with_reducible rfl
      try simp only [Act.put, List.setIfInBounds_toArray, List.set_cons_zero, List.set_cons_succ]
      refine tkA (i := 3) (v := ?_) rfl (fun _ _ _ h => h) (Or.inl ⟨by rfl, ?yl⟩) (by assumption) ?_
      case yl => (intro w hSw; (try dsimp only at hSw); (try obtain ⟨k1, k2, k3, k4, k5⟩ := hSw); go_simp); with_reducible rfl
      try simp only [Act.put, List.setIfInBounds_toArray, List.set_cons_zero, List.set_cons_succ]
      refine tkA (i := 4) (v := ?_) rfl (fun _ _ _ h => h) (Or.inl ⟨by rfl, ?yl⟩) (by assumption) ?_
      case yl => (intro w hSw; (try dsimp only at hSw); (try obtain ⟨k1, k2, k3, k4, k5⟩ := hSw); go_simp); with_reducible rfl
      try simp only [Act.put, List.setIfInBounds_toArray, List.set_cons_zero, List.set_cons_succ]
      refine tkA (i := 5) (v := ?_) rfl (fun _ _ _ h => h) (Or.inl ⟨by rfl, ?yl⟩) (by assumption) ?_
      case yl => (intro w hSw; (try dsimp only at hSw); (try obtain ⟨k1, k2, k3, k4, k5⟩ := hSw); go_simp); with_reducible rfl
      try simp only [Act.put, List.setIfInBounds_toArray, List.set_cons_zero, List.set_cons_succ]
      refine tkA (i := 6) (v := ?_) rfl (fun _ _ _ h => h) (Or.inl ⟨by rfl, ?yl⟩) (by assumption) ?_
      case yl => (intro w hSw; (try dsimp only at hSw); (try obtain ⟨k1, k2, k3, k4, k5⟩ := hSw); go_simp); with_reducible rfl
      try simp only [Act.put, List.setIfInBounds_toArray, List.set_cons_zero, List.set_cons_succ]
      refine tkA (i := 7) (v := ?_) rfl (fun _ _ _ h => h) (Or.inl ⟨by rfl, ?yl⟩) (by assumption) ?_
      case yl => (intro w hSw; (try dsimp only at hSw); (try obtain ⟨k1, k2, k3, k4, k5⟩ := hSw); go_simp); with_reducible rfl
      try simp only [Act.put, List.setIfInBounds_toArray, List.set_cons_zero, List.set_cons_succ]
      refine tkA (i := 8) (v := ?_) rfl (fun _ _ _ h => h) (Or.inl ⟨by rfl, ?yl⟩) (by assumption) ?_
      case yl => (intro w hSw; (try dsimp only at hSw); (try obtain ⟨k1, k2, k3, k4, k5⟩ := hSw); go_simp); with_reducible rfl
      try simp only [Act.put, List.setIfInBounds_toArray, List.set_cons_zero, List.set_cons_succ]
      refine tkA (i := 9) (v := ?_) rfl (fun _ _ _ h => h) (Or.inl ⟨by rfl, ?yl⟩) (by assumption) ?_
      case yl => (intro w hSw; (try dsimp only at hSw); (try obtain ⟨k1, k2, k3, k4, k5⟩ := hSw); go_simp); with_reducible rfl
      try simp only [Act.put, List.setIfInBounds_toArray, List.set_cons_zero, List.set_cons_succ]
      refine tkA (i := 10) (v := ?_) rfl (fun _ _ _ h => h) (Or.inl ⟨by rfl, ?yl⟩) (by assumption) ?_
      case yl => (intro w hSw; (try dsimp only at hSw); (try obtain ⟨k1, k2, k3, k4, k5⟩ := hSw); go_simp); with_reducible rfl
      try simp only [Act.put, List.setIfInBounds_toArray, List.set_cons_zero, List.set_cons_succ]
      refine tkA (i := 11) (v := ?_) rfl (fun _ _ _ h => h) (Or.inl ⟨by rfl, ?yl⟩) (by assumption) ?_
      case yl => (intro w hSw; (try dsimp only at hSw); (try obtain ⟨k1, k2, k3, k4, k5⟩ := hSw); go_simp); with_reducible rfl
      try simp only [Act.put, List.setIfInBounds_toArray, List.set_cons_zero, List.set_cons_succ]
      refine tkA (i := 12) (v := ?_) rfl (fun _ _ _ h => h) (Or.inl ⟨by rfl, ?yl⟩) (by assumption) ?_
      case yl => (intro w hSw; (try dsimp only at hSw); (try obtain ⟨k1, k2, k3, k4, k5⟩ := hSw); go_simp); with_reducible rfl
      try simp only [Act.put, List.setIfInBounds_toArray, List.set_cons_zero, List.set_cons_succ]
      refine tkA (i := 13) (v := ?_) rfl (fun _ _ _ h => h) (Or.inl ⟨by rfl, ?yl⟩) (by assumption) ?_
      case yl => (intro w hSw; (try dsimp only at hSw); (try obtain ⟨k1, k2, k3, k4, k5⟩ := hSw); go_simp); with_reducible rfl
      try simp only [Act.put, List.setIfInBounds_toArray, List.set_cons_zero, List.set_cons_succ]
      refine tkA (i := 14) (v := ?_) rfl (fun _ _ _ h => h) (Or.inl ⟨by rfl, ?yl⟩) (by assumption) ?_
      case yl => (intro w hSw; (try dsimp only at hSw); (try obtain ⟨k1, k2, k3, k4, k5⟩ := hSw); go_simp); with_reducible rfl
      try simp only [Act.put, List.setIfInBounds_toArray, List.set_cons_zero, List.set_cons_succ]
      refine tkA (i := 15) (v := ?_) rfl (fun _ _ _ h => h) (Or.inl ⟨by rfl, ?yl⟩) (by assumption) ?_
      case yl => (intro w hSw; (try dsimp only at hSw); (try obtain ⟨k1, k2, k3, k4, k5⟩ := hSw); go_simp); with_reducible rfl
      try simp only [Act.put, List.setIfInBounds_toArray, List.set_cons_zero, List.set_cons_succ]
      refine tkA (i := 16) (v := ?_) rfl (fun _ _ _ h => h) (Or.inl ⟨by rfl, ?yl⟩) (by assumption) ?_
      case yl => (intro w hSw; (try dsimp only at hSw); (try obtain ⟨k1, k2, k3, k4, k5⟩ := hSw); go_simp); with_reducible rfl
      try simp only [Act.put, List.setIfInBounds_toArray, List.set_cons_zero, List.set_cons_succ]
      refine tkA (i := 17) (v := ?_) rfl (fun _ _ _ h => h) (Or.inl ⟨by rfl, ?yl⟩) (by assumption) ?_
      case yl => (intro w hSw; (try dsimp only at hSw); (try obtain ⟨k1, k2, k3, k4, k5⟩ := hSw); go_simp); with_reducible rfl
      try simp only [Act.put, List.setIfInBounds_toArray, List.set_cons_zero, List.set_cons_succ]
      refine tkA (i := 18) (v := ?_) rfl (fun _ _ _ h => h) (Or.inl ⟨by rfl, ?yl⟩) (by assumption) ?_
      case yl => (intro w hSw; (try dsimp only at hSw); (try obtain ⟨k1, k2, k3, k4, k5⟩ := hSw); go_simp); with_reducible rfl
      try simp only [Act.put, List.setIfInBounds_toArray, List.set_cons_zero, List.set_cons_succ]
      refine tkA (i := 19) (v := ?_) rfl (fun _ _ _ h => h) (Or.inl ⟨by rfl, ?yl⟩) (by assumption) ?_
      case yl => (intro w hSw; (try dsimp only at hSw); (try obtain ⟨k1, k2, k3, k4, k5⟩ := hSw); go_simp); with_reducible rfl
      try simp only [Act.put, List.setIfInBounds_toArray, List.set_cons_zero, List.set_cons_succ]
      refine tkA (i := 20) (v := ?_) rfl (fun _ _ _ h => h) (Or.inl ⟨by rfl, ?yl⟩) (by assumption) ?_
      case yl => (intro w hSw; (try dsimp only at hSw); (try obtain ⟨k1, k2, k3, k4, k5⟩ := hSw); go_simp); with_reducible rfl
      try simp only [Act.put, List.setIfInBounds_toArray, List.set_cons_zero, List.set_cons_succ]
      refine tkA (i := 21) (v := ?_) rfl (fun _ _ _ h => h) (Or.inl ⟨by rfl, ?yl⟩) (by assumption) ?_
      case yl => (intro w hSw; (try dsimp only at hSw); (try obtain ⟨k1, k2, k3, k4, k5⟩ := hSw); go_simp); with_reducible rfl
      try simp only [Act.put, List.setIfInBounds_toArray, List.set_cons_zero, List.set_cons_succ]
      refine tkA (i := 22) (v := ?_) rfl (fun _ _ _ h => h) (Or.inl ⟨by rfl, ?yl⟩) (by assumption) ?_
      case yl => (intro w hSw; (try dsimp only at hSw); (try obtain ⟨k1, k2, k3, k4, k5⟩ := hSw); go_simp); with_reducible rfl
      try simp only [Act.put, List.setIfInBounds_toArray, List.set_cons_zero, List.set_cons_succ]
      refine tkA (i := 23) (v := ?_) rfl (fun _ _ _ h => h) (Or.inl ⟨by rfl, ?yl⟩) (by assumption) ?_
      case yl => (intro w hSw; (try dsimp only at hSw); (try obtain ⟨k1, k2, k3, k4, k5⟩ := hSw); go_simp); with_reducible rfl
      try simp only [Act.put, List.setIfInBounds_toArray, List.set_cons_zero, List.set_cons_succ]
      refine tkA (i := 24) (v := ?_) rfl (fun _ _ _ h => h) (Or.inl ⟨by rfl, ?yl⟩) (by assumption) ?_
      case yl => (intro w hSw; (try dsimp only at hSw); (try obtain ⟨k1, k2, k3, k4, k5⟩ := hSw); go_simp); with_reducible rfl
      try simp only [Act.put, List.setIfInBounds_toArray, List.set_cons_zero, List.set_cons_succ]
      refine tkA (i := 25) (v := ?_) rfl (fun _ _ _ h => h) (Or.inl ⟨by rfl, ?yl⟩) (by assumption) ?_
      case yl => (intro w hSw; (try dsimp only at hSw); (try obtain ⟨k1, k2, k3, k4, k5⟩ := hSw); go_simp); with_reducible rfl
      try simp only [Act.put, List.setIfInBounds_toArray, List.set_cons_zero, List.set_cons_succ]
      refine wpAnyH_ready (rs := [26]) (by kernel_rfl) (by simp) ?_
      refine AllReadyH.cons (o := _) rfl (fun K hK => ?_) AllReadyH.nil
      go_simp
      refine hK.out _ _ (by have hX := hX.out; exact ⟨(show Ext w3 _ from (by repeat (with_reducible first | assumption | exact Ext.refl _ | refine Ext.drew ?_ | refine Ext.drewN ?_ _ | refine Ext.alloc ?_ _ | refine xS ?_ _ | refine xT ?_ (by assumption)))).cell r0, (show Ext w3 _ from (by repeat (with_reducible first | assumption | exact Ext.refl _ | refine Ext.drew ?_ | refine Ext.drewN ?_ _ | refine Ext.alloc ?_ _ | refine xS ?_ _ | refine xT ?_ (by assumption)))).cell r1, (show Ext w3 _ from (by repeat (with_reducible first | assumption | exact Ext.refl _ | refine Ext.drew ?_ | refine Ext.drewN ?_ _ | refine Ext.alloc ?_ _ | refine xS ?_ _ | refine xT ?_ (by assumption)))).cell r4, (show Ext w3 _ from (by repeat (with_reducible first | assumption | exact Ext.refl _ | refine Ext.drew ?_ | refine Ext.drewN ?_ _ | refine Ext.alloc ?_ _ | refine xS ?_ _ | refine xT ?_ (by assumption)))).cell r5, (show Ext w3 _ from (by repeat (with_reducible first | assumption | exact Ext.refl _ | refine Ext.drew ?_ | refine Ext.drewN ?_ _ | refine Ext.alloc ?_ _ | refine xS ?_ _ | refine xT ?_ (by assumption)))).cell r6⟩) (fun hHeld => ?_)
      clear hK K
      refine wpAnyH_ready (rs := [27]) (by kernel_rfl) (by simp) ?_
      refine AllReadyH.cons (o := _) rfl (fun K hK => ?_) AllReadyH.nil
      rw [if_pos (by rfl)]
      refine appK_wp _ _ _ rfl 2 Try.underlying25 elemI64 w3.heap.size (dR (ent t) si c j) [x - y] _ rfl _ _ _ rfl (by rfl) ?b0 ?b1 ?b2 ?b3 ?_
      (case b0 => exact ho.out.ext (by repeat (with_reducible first | assumption | exact Ext.refl _ | refine Ext.drew ?_ | refine Ext.drewN ?_ _ | refine Ext.alloc ?_ _ | refine xS ?_ _ | refine xT ?_ (by assumption))))
      (case b1 => intro i hi; obtain rfl : i = 0 := by simp at hi; omega
                  exact ⟨_, _, rfl, by simp [go_sem, nth]⟩)
      (case b2 => have h4 := hn4.out; have h5 := hN1.out; rw [hlr.out]; simp; omega)
      (case b3 => have := Ext.size hX.out; simp; omega)
      intro b9 cp9 w9 own9 ext9
      have hE9 : Ext w3 w9 := ext9 w3 (by have := hX.out; exact (by repeat (with_reducible first | assumption | exact Ext.refl _ | refine Ext.drew ?_ | refine Ext.drewN ?_ _ | refine Ext.alloc ?_ _ | refine xS ?_ _ | refine xT ?_ (by assumption)))) (Nat.le_refl _)
      simp only [List.length_singleton] at own9 ⊢
      refine hK.out _ _ ⟨(show Ext w3 w9 from (by repeat (with_reducible first | assumption | exact Ext.refl _ | refine Ext.drew ?_ | refine Ext.drewN ?_ _ | refine Ext.alloc ?_ _ | refine xS ?_ _ | refine xT ?_ (by assumption)))).cell r0, (show Ext w3 w9 from (by repeat (with_reducible first | assumption | exact Ext.refl _ | refine Ext.drew ?_ | refine Ext.drewN ?_ _ | refine Ext.alloc ?_ _ | refine xS ?_ _ | refine xT ?_ (by assumption)))).cell r1, (show Ext w3 w9 from (by repeat (with_reducible first | assumption | exact Ext.refl _ | refine Ext.drew ?_ | refine Ext.drewN ?_ _ | refine Ext.alloc ?_ _ | refine xS ?_ _ | refine xT ?_ (by assumption)))).cell r4, (show Ext w3 w9 from (by repeat (with_reducible first | assumption | exact Ext.refl _ | refine Ext.drew ?_ | refine Ext.drewN ?_ _ | refine Ext.alloc ?_ _ | refine xS ?_ _ | refine xT ?_ (by assumption)))).cell r5, (show Ext w3 w9 from (by repeat (with_reducible first | assumption | exact Ext.refl _ | refine Ext.drew ?_ | refine Ext.drewN ?_ _ | refine Ext.alloc ?_ _ | refine xS ?_ _ | refine xT ?_ (by assumption)))).cell r6⟩ (fun hHeld => ?_)
      clear hK K
      try simp only [Act.put, List.setIfInBounds_toArray, List.set_cons_zero, List.set_cons_succ]
      refine tkA (i := 28) (v := ?_) rfl (fun _ _ _ h => h) (Or.inl ⟨by rfl, ?yl⟩) (by assumption) ?_
      case yl => (intro w hSw; (try dsimp only at hSw); (try obtain ⟨k1, k2, k3, k4, k5⟩ := hSw); go_simp); with_reducible rfl
      try simp only [Act.put, List.setIfInBounds_toArray, List.set_cons_zero, List.set_cons_succ]
      refine wpAnyH_done (by kernel_rfl) ?_ _
      simp only [sxA, sxB, sxC, Act.put, sxD, sxE, sxF]
      clear hHeld
      have hfr := hid own9
      have hfx := hid hE9
      clear own9 ext9 hE9
      have u1 := Go.IntWalk.i64_in ((j : Int) + 1) (by have h4 := hn4.out; have h5 := hN1.out; omega)
      go_wp2_with fail
      go_roundw
      case rel => exact ⟨j + 1, by omega, by go_num, hid (by rw [hsr.out]; exact hfr.out), hfx.out⟩
      case measure => simp [intOf]; omega
     ·have hfull := hid (show dR (ent t) si c j = dR (ent t) si c (n - 1) by rw [show j = n - 1 by have := hN1.out; omega])
      have hqn : ¬ ((j : Int) < ((N1 : Nat) : Int)) := by omega
      obtain ⟨la, lc, rfl, hLI⟩ := ho.out.slice
      have hlcap := hid ho.out.cap.2
      have hlb := hid ho.out.block
      rw [hfull.out] at hlcap hlb hLI
      rw [hfull.out]
      have hll := hid (dR_len (ent t) si c (n - 1))
      obtain ⟨R, hR⟩ : ∃ R, dR (ent t) si c (n - 1) = R := ⟨_, rfl⟩
      rw [hR] at hlcap hlb hLI hst hll
      rw [hR]
      have hLI := hid hLI
      have hX := hid hx
      have hsz := hid (Ext.size hx)
      clear ho hx hR
      have u2 := Go.IntWalk.i64_in ((k : Int) + 1) (by have h4 := hn4.out; omega)
      go_wp2_with (at_builtin; refine app_row rfl _ _ _ rfl 25 Try.underlying22 elemRowS w2.heap.size w2.heap.size (dT (ent t) s c k) u8 rfl _ rfl (hoT.out.ext (by have := hX.out; exact (by repeat (with_reducible first | assumption | exact Ext.refl _ | refine Ext.drew ?_ | refine Ext.drewN ?_ _ | refine Ext.alloc ?_ _ | refine xS ?_ _ | refine xT ?_ (by assumption))))) R la R.length lc rfl ?b4 ?b5 hlcap.out ?b6 ?b7 ?b8 ?_; (case b4 => simp [go_sem]); (case b5 => exact hLI.out.ext (by repeat (with_reducible first | assumption | exact Ext.refl _ | refine Ext.drew ?_ | refine Ext.drewN ?_ _ | refine Ext.alloc ?_ _ | refine xS ?_ _ | refine xT ?_ (by assumption)))); (case b6 => intro bb oo h0 e; subst e; have z1 := (hlb.out bb (by simp [Value.ownBlock])).1; have z3 := s3.out; exact ⟨fun he => by have := (hoT.out.block bb he).2; omega, by omega⟩); (case b7 => rw [hct.out]; have := hn4.out; omega); (case b8 => have := hsz.out; have := s3.out; simp; omega); intro b9 cp9 w9 own9 g9 at9 hb9; have hE9 : Hid (Ext w2 w9) := hid (Ext.grown (by have := hX.out; have := HW.out; exact (by repeat (with_reducible first | assumption | exact Ext.refl _ | refine Ext.drew ?_ | refine Ext.drewN ?_ _ | refine Ext.alloc ?_ _ | refine xS ?_ _ | refine xT ?_ (by assumption)))) g9 (fun g hg => (hoT.out.block g hg).1)); have own9 := hid own9; clear at9 g9 hb9)
      go_roundw
      case rel => exact ⟨k + 1, by omega, by go_num, hid (by rw [hst.out]; exact own9.out), hE9.out⟩
      case measure => simp [intOf]; omega
  ·have hqn : ¬ ((k : Int) < (n : Int)) := by omega
   have hkn := hid (show k = n by omega)
   rw [show dT (ent t) s c k = dT (ent t) s c s.length by rw [hn.out, hkn.out], dT_end] at hoT
   obtain ⟨ta, tc, rfl, hTT⟩ := hoT.out.slice
   have hTl := hid (dTab_len (ent t) s c)
   rw [hTl.out, hn.out]
   have hTT := hid hTT
   have hW := hid hw
   have r0 := (X2.out.trans hw).cell hDc.out
   have hm0 : (0 : Int) ≤ (M : Int) := by omega
   clear hoT hw
   go_wp2_with (at_make; refine make_ints rfl _ _ 25 rfl 2 Try.underlying25 elemI64 M rfl rfl (by omega) ?_; intro w5 ho5 hx5)
   obtain ⟨wm, rfl⟩ : ∃ w4 : World, w4 = wr := ⟨_, rfl⟩
   obtain ⟨g, hg⟩ : ∃ g, g = wm.heap.size := ⟨_, rfl⟩
   rw [← hg] at ho5 ⊢
   have hg2 := hid (Nat.le_of_eq hg.symm)
   replace hg := hid hg
   have ho5 := hid ho5
   have hx5 := hid hx5
   have hrc := hid (dTab_rc hvv.out (s := s) (c := c) (by rw [hn.out, hcn.out]) (by rw [hn.out]; omega))
   rw [hn.out] at hrc
   rw [mkL_rep, mkL_congr (fun k _ => (show (0 : Int) = pf (ent t) s c 0 k from rfl))] at ho5
   clear hkn hqn
   go_loopw [15, 81] (fun sg i wx => ∃ k : Nat, k ≤ n ∧ i = .int .i64 k ∧ sg = .int .i64 (sgn k) ∧ Hid (OwnI wx g 2 (.slice (some ⟨g, 0, none⟩) M M) (mkL M (pf (ent t) s c k))) ∧ Ext wm wx) (fun _ i _ => (n - intOf i).toNat)
   case atStart => exact ⟨0, by omega, rfl, rfl, ho5, hx5.out⟩
   case round =>
    obtain ⟨k2, hk2, rfl, rfl, hO, hy⟩ := hrel
    by_cases hkl2 : k2 < n
    ·have hY := hid hy
     have p0 := (hW.out.trans hy).cell (HR.out k2 hkl2)
     have hs2 := hsl.out k2 hkl2
     obtain ⟨sk, hsk⟩ : ∃ x, s.getD k2 0 = x := ⟨_, rfl⟩
     rw [hsk] at p0 hs2
     replace hsk := hid hsk
     have hbd := hid (min_bd (n - 1) (dTab (ent t) s c) k2 hrc.out (by omega))
     have hmn := hid (fun W hW => minor_any (n - 1) (by have := hn4.out; omega) (dTab (ent t) s c) hrc.out k2 (by omega) ta n tc (by omega) W hW)
     have hpe := hid (show partE (ent t) s c k2 = sgn k2 * minF (n - 1) (dTab (ent t) s c) k2 by unfold partE; rw [hn.out, min_det (n - 1) (by have := hn4.out; omega) _ k2 hrc.out (by omega)])
     obtain ⟨d, hd0⟩ : ∃ d, minF (n - 1) (dTab (ent t) s c) k2 = d := ⟨_, rfl⟩
     rw [hd0] at hbd hmn hpe
     have hTT2 := hid (hTT.out.ext hy)
     have hsg := hid (sgn_bd k2)
     have hss := hid (sgn_step k2)
     obtain ⟨sg, hsg0⟩ : ∃ x, sgn k2 = x := ⟨_, rfl⟩
     rw [hsg0] at hsg hss hpe ⊢
     replace hd0 := hid hd0
     replace hsg0 := hid hsg0
     have hB : detB (n - 1) ≤ 48000000 := by
      have h4 := hn4.out
      have : n - 1 = 0 ∨ n - 1 = 1 ∨ n - 1 = 2 ∨ n - 1 = 3 := by omega
      rcases this with e | e | e | e <;> rw [e] <;> simp [detB]
     have e1 : sg * d = d ∨ sg * d = -d := by rcases hsg.out with rfl | rfl <;> omega
     have z1 := Go.IntWalk.i64_in (sg * d) (by have := hbd.out; omega)
     have z2 := Go.IntWalk.i64_in (-sg) (by have := hsg.out; omega)
     have z3 := Go.IntWalk.i64_in ((k2 : Int) + 1) (by have := hn4.out; omega)
     clear hy e1 hB
     go_wp2_with (first | (go_at_call 115; refine (hmn.out _ (hTT2.out.ext (by repeat (with_reducible first | assumption | exact Ext.refl _ | refine Ext.drew ?_ | refine Ext.drewN ?_ _ | refine Ext.alloc ?_ _ | refine xS ?_ _ | refine xT ?_ (by assumption))))).mono ?_; rintro e w6 ⟨rfl, hE6⟩; have hO6 := hid (hO.out.ext (show Ext _ w6 from (by repeat (with_reducible first | assumption | exact Ext.refl _ | refine Ext.drew ?_ | refine Ext.drewN ?_ _ | refine Ext.alloc ?_ _ | refine xS ?_ _ | refine xT ?_ (by assumption))))); obtain ⟨q2, q3, -, q4⟩ := hO6.out.facts (j := sk) (by rw [mkL_len]; exact hs2)))
     have h2 := OwnI.set (l := mkL M (pf (ent t) s c k2)) (by rw [mkL_len]; exact hO6.out) (i := sk) (sg * d)
     rw [mkL_set, mkL_len] at h2
     have hpf : (fun k => if k = sk then sg * d else pf (ent t) s c k2 k) = pf (ent t) s c (k2 + 1) := by
      funext r
      simp only [pf]
      rw [hsk.out, hpe.out]
     rw [hpf] at h2
     have h2 := hid h2
     go_roundw
     case rel => exact ⟨k2 + 1, by omega, by go_num, by rw [hss.out], h2, by have := hY.out; have := hg2.out; exact (show Ext _ w6 from (by repeat (with_reducible first | assumption | exact Ext.refl _ | refine Ext.drew ?_ | refine Ext.drewN ?_ _ | refine Ext.alloc ?_ _ | refine xS ?_ _ | refine xT ?_ (by assumption)))).setCell (by simpa using hg2.out) _⟩
     case measure => simp [intOf]; omega
    ·obtain ⟨wx, rfl⟩ : ∃ w4 : World, w4 = wr := ⟨_, rfl⟩
     have hke := hid (show k2 = n by omega)
     have hqn : ¬ ((k2 : Int) < (n : Int)) := by omega
     have hbd0 := hid (fun r => pf_bd hvv.out (s := s) (c := c) (by rw [hn.out, hcn.out]) (by rw [hn.out]; omega) (by rw [hn.out]; exact hn4.out) r k2 (by rw [hn.out]; omega))
     have eraw : pf (ent t) s c k2 = rawF (ent t) s c := by funext r; unfold rawF; rw [hn.out, hke.out]
     rw [eraw] at hO hbd0
     clear eraw
     have h0M : 0 < M := by omega
     have hdefN := hid (show negE (ent t) s c M = decide (mxTo (rawF (ent t) s c) M ≤ 0) from rfl)
     have hdefE := hid (show endF (ent t) s c M = fun r => if negE (ent t) s c M then - rawF (ent t) s c r else rawF (ent t) s c r from rfl)
     have hdefO := hid (show okE (ent t) s c M = (decide (0 ≤ mnTo (endF (ent t) s c M) M) && decide (0 < mxTo (endF (ent t) s c M) M)) from rfl)
     obtain ⟨f, hf⟩ : ∃ f, rawF (ent t) s c = f := ⟨_, rfl⟩
     rw [hf] at hO hbd0 hdefN hdefE
     obtain ⟨ne, hne⟩ : ∃ x, negE (ent t) s c M = x := ⟨_, rfl⟩
     rw [hne] at hdefN hdefE
     obtain ⟨E, hE⟩ : ∃ E, endF (ent t) s c M = E := ⟨_, rfl⟩
     rw [hE] at hdefE hdefO
     replace hE := hid hE
     replace hne := hid hne
     replace hf := hid hf
     have hEq : Hid (∀ i, I64 (E i)) := hid (fun i => by
      rw [hdefE.out]
      have := hbd0.out i
      dsimp only
      split
      ·exact ⟨by omega, by omega⟩
      ·exact ⟨by omega, by omega⟩)
     have hfq : Hid (∀ i, I64 (f i)) := hid (fun i => by have := hbd0.out i; exact ⟨by omega, by omega⟩)
     have hIf := hid hO.out.ints
     have hX7 := hid (show Ext w wx from by have := X2.out; have := hW.out; exact (by repeat (with_reducible first | assumption | exact Ext.refl _ | refine Ext.drew ?_ | refine Ext.drewN ?_ _ | refine Ext.alloc ?_ _ | refine xS ?_ _ | refine xT ?_ (by assumption))))
     have hgw : Hid (w.heap.size ≤ g) := hid (by have h1 := Ext.size X2.out; have h2 := Ext.size hW.out; have h3 := hg.out; omega)
     cases ne with
     | true =>
      have hmxn : mxTo f M ≤ 0 := of_decide_eq_true hdefN.out.symm
      go_wp2_with (first | (go_at_call 116; refine (max_mk g M h0M (by omega) f hfq.out M _ (hIf.out.ext (by repeat (with_reducible first | assumption | exact Ext.refl _ | refine Ext.drew ?_ | refine Ext.drewN ?_ _ | refine Ext.alloc ?_ _ | refine xS ?_ _ | refine xT ?_ (by assumption))))).mono ?_; rintro e w8 ⟨rfl, rfl⟩))
      go_loopw [102] (fun i wz => ∃ k : Nat, k ≤ M ∧ i = .int .i64 k ∧ Hid (OwnI wz g 2 (.slice (some ⟨g, 0, none⟩) M M) (mkL M (ngF f k))) ∧ Ext wm wz) (fun i _ => (M - intOf i).toNat)
      case atStart => exact ⟨0, by omega, rfl, by rw [ngF_zero]; exact hid (hO.out.ext (by repeat (with_reducible first | assumption | exact Ext.refl _ | refine Ext.drew ?_ | refine Ext.drewN ?_ _ | refine Ext.alloc ?_ _ | refine xS ?_ _ | refine xT ?_ (by assumption)))), by have := hy; exact (by repeat (with_reducible first | assumption | exact Ext.refl _ | refine Ext.drew ?_ | refine Ext.drewN ?_ _ | refine Ext.alloc ?_ _ | refine xS ?_ _ | refine xT ?_ (by assumption)))⟩
      case round =>
       obtain ⟨k, hk, rfl, hO8, hz⟩ := hrel
       obtain ⟨wz, rfl⟩ : ∃ w4 : World, w4 = wr := ⟨_, rfl⟩
       by_cases hkl : k < M
       ·have hZ := hid hz
        obtain ⟨q2, q3, -, q4⟩ := hO8.out.facts (j := k) (by rw [mkL_len]; exact hkl)
        rw [mkL_nth _ hkl, ngF_at] at q2
        have h2 := OwnI.set (l := mkL M (ngF f k)) (by rw [mkL_len]; exact hO8.out) (i := k) (- f k)
        rw [mkL_set, mkL_len, ngF_step] at h2
        have h2 := hid h2
        obtain ⟨fk, hfk⟩ : ∃ x, f k = x := ⟨_, rfl⟩
        have hfb := hbd0.out k
        rw [hfk] at q2 h2 hfb
        replace hfk := hid hfk
        have z1 := Go.IntWalk.i64_in (-fk) (by omega)
        have z2 := Go.IntWalk.i64_in ((k : Int) + 1) (by omega)
        clear hfb hz
        go_wp2_with fail
        go_roundw
        case rel => exact ⟨k + 1, by omega, by go_num, h2, by have := hZ.out; exact Ext.setCell this (by have := hg2.out; simp; omega) _⟩
        case measure => simp [intOf]; omega
       ·obtain rfl : M = k := by omega
        have e8 : mkL M (ngF f M) = mkL M E := mkL_congr fun r hr => by
         rw [hdefE.out]; unfold ngF; rw [if_pos hr]; rfl
        rw [e8] at hO8
        have hX8 := hid (show Ext w wz from by have := X2.out; have := hW.out; exact (by repeat (with_reducible first | assumption | exact Ext.refl _ | refine Ext.drew ?_ | refine Ext.drewN ?_ _ | refine Ext.alloc ?_ _ | refine xS ?_ _ | refine xT ?_ (by assumption))))
        clear e8
        have hI8 := hid hO8.out.ints
        by_cases hmn : 0 ≤ mnTo E M
        ·by_cases hmx : 0 < mxTo E M
         ·have hok : Hid (okE (ent t) s c M = true) := hid (by rw [hdefO.out]; simp [hmn, hmx])
          go_wp2_with (first | (go_at_call 77; refine (min_mk g M h0M (by omega) E hEq.out M _ (hI8.out.ext (by repeat (with_reducible first | assumption | exact Ext.refl _ | refine Ext.drew ?_ | refine Ext.drewN ?_ _ | refine Ext.alloc ?_ _ | refine xS ?_ _ | refine xT ?_ (by assumption))))).mono ?_; rintro e w8 ⟨rfl, rfl⟩) | (go_at_call 116; refine (max_mk g M h0M (by omega) E hEq.out M _ (hI8.out.ext (by repeat (with_reducible first | assumption | exact Ext.refl _ | refine Ext.drew ?_ | refine Ext.drewN ?_ _ | refine Ext.alloc ?_ _ | refine xS ?_ _ | refine xT ?_ (by assumption))))).mono ?_; rintro e w8 ⟨rfl, rfl⟩))
          go_ret2
          rw [hok.out, hE.out]
          exact ⟨g, rfl, (hO8.out.ext (by repeat (with_reducible first | assumption | exact Ext.refl _ | refine Ext.drew ?_ | refine Ext.drewN ?_ _ | refine Ext.alloc ?_ _ | refine xS ?_ _ | refine xT ?_ (by assumption)))).mono hgw.out, by have := hX8.out; exact (by repeat (with_reducible first | assumption | exact Ext.refl _ | refine Ext.drew ?_ | refine Ext.drewN ?_ _ | refine Ext.alloc ?_ _ | refine xS ?_ _ | refine xT ?_ (by assumption)))⟩
         ·first
          | (exfalso; omega)
          | (have hok : Hid (okE (ent t) s c M = false) := hid (by rw [hdefO.out]; simp [hmx])
             go_wp2_with (first | (go_at_call 77; refine (min_mk g M h0M (by omega) E hEq.out M _ (hI8.out.ext (by repeat (with_reducible first | assumption | exact Ext.refl _ | refine Ext.drew ?_ | refine Ext.drewN ?_ _ | refine Ext.alloc ?_ _ | refine xS ?_ _ | refine xT ?_ (by assumption))))).mono ?_; rintro e w8 ⟨rfl, rfl⟩) | (go_at_call 116; refine (max_mk g M h0M (by omega) E hEq.out M _ (hI8.out.ext (by repeat (with_reducible first | assumption | exact Ext.refl _ | refine Ext.drew ?_ | refine Ext.drewN ?_ _ | refine Ext.alloc ?_ _ | refine xS ?_ _ | refine xT ?_ (by assumption))))).mono ?_; rintro e w8 ⟨rfl, rfl⟩))
             go_ret2
             rw [hok.out, hE.out]
             have hmd := hid (decide_eq_false (Int.not_lt.2 hmx))
             exact ⟨g, (by show Ending.returned (.tuple #[.slice (some ⟨g, 0, none⟩) M M, .bool (decide (0 < mxTo E M))]) = _; rw [hmd.out]), (hO8.out.ext (by repeat (with_reducible first | assumption | exact Ext.refl _ | refine Ext.drew ?_ | refine Ext.drewN ?_ _ | refine Ext.alloc ?_ _ | refine xS ?_ _ | refine xT ?_ (by assumption)))).mono hgw.out, by have := hX8.out; exact (by repeat (with_reducible first | assumption | exact Ext.refl _ | refine Ext.drew ?_ | refine Ext.drewN ?_ _ | refine Ext.alloc ?_ _ | refine xS ?_ _ | refine xT ?_ (by assumption)))⟩)
        ·have hok : Hid (okE (ent t) s c M = false) := hid (by rw [hdefO.out]; simp [hmn])
         go_wp2_with (first | (go_at_call 77; refine (min_mk g M h0M (by omega) E hEq.out M _ (hI8.out.ext (by repeat (with_reducible first | assumption | exact Ext.refl _ | refine Ext.drew ?_ | refine Ext.drewN ?_ _ | refine Ext.alloc ?_ _ | refine xS ?_ _ | refine xT ?_ (by assumption))))).mono ?_; rintro e w8 ⟨rfl, rfl⟩) | (go_at_call 116; refine (max_mk g M h0M (by omega) E hEq.out M _ (hI8.out.ext (by repeat (with_reducible first | assumption | exact Ext.refl _ | refine Ext.drew ?_ | refine Ext.drewN ?_ _ | refine Ext.alloc ?_ _ | refine xS ?_ _ | refine xT ?_ (by assumption))))).mono ?_; rintro e w8 ⟨rfl, rfl⟩))
         go_ret2
         rw [hok.out, hE.out]
         exact ⟨g, rfl, (hO8.out.ext (by repeat (with_reducible first | assumption | exact Ext.refl _ | refine Ext.drew ?_ | refine Ext.drewN ?_ _ | refine Ext.alloc ?_ _ | refine xS ?_ _ | refine xT ?_ (by assumption)))).mono hgw.out, by have := hX8.out; exact (by repeat (with_reducible first | assumption | exact Ext.refl _ | refine Ext.drew ?_ | refine Ext.drewN ?_ _ | refine Ext.alloc ?_ _ | refine xS ?_ _ | refine xT ?_ (by assumption)))⟩
     | false =>
      have hmxn : ¬ mxTo f M ≤ 0 := of_decide_eq_false hdefN.out.symm
      obtain rfl : E = f := by funext r; rw [hdefE.out]; rfl
      have hO8 := hO
      have hX8 := hX7
      have hI8 := hid hO8.out.ints
      by_cases hmn : 0 ≤ mnTo E M
      ·by_cases hmx : 0 < mxTo E M
       ·have hok : Hid (okE (ent t) s c M = true) := hid (by rw [hdefO.out]; simp [hmn, hmx])
        go_wp2_with (first | (go_at_call 77; refine (min_mk g M h0M (by omega) E hEq.out M _ (hI8.out.ext (by repeat (with_reducible first | assumption | exact Ext.refl _ | refine Ext.drew ?_ | refine Ext.drewN ?_ _ | refine Ext.alloc ?_ _ | refine xS ?_ _ | refine xT ?_ (by assumption))))).mono ?_; rintro e w8 ⟨rfl, rfl⟩) | (go_at_call 116; refine (max_mk g M h0M (by omega) E hEq.out M _ (hI8.out.ext (by repeat (with_reducible first | assumption | exact Ext.refl _ | refine Ext.drew ?_ | refine Ext.drewN ?_ _ | refine Ext.alloc ?_ _ | refine xS ?_ _ | refine xT ?_ (by assumption))))).mono ?_; rintro e w8 ⟨rfl, rfl⟩))
        go_ret2
        rw [hok.out, hE.out]
        exact ⟨g, rfl, (hO8.out.ext (by repeat (with_reducible first | assumption | exact Ext.refl _ | refine Ext.drew ?_ | refine Ext.drewN ?_ _ | refine Ext.alloc ?_ _ | refine xS ?_ _ | refine xT ?_ (by assumption)))).mono hgw.out, by have := hX8.out; exact (by repeat (with_reducible first | assumption | exact Ext.refl _ | refine Ext.drew ?_ | refine Ext.drewN ?_ _ | refine Ext.alloc ?_ _ | refine xS ?_ _ | refine xT ?_ (by assumption)))⟩
       ·first
        | (exfalso; omega)
        | (have hok : Hid (okE (ent t) s c M = false) := hid (by rw [hdefO.out]; simp [hmx])
           go_wp2_with (first | (go_at_call 77; refine (min_mk g M h0M (by omega) E hEq.out M _ (hI8.out.ext (by repeat (with_reducible first | assumption | exact Ext.refl _ | refine Ext.drew ?_ | refine Ext.drewN ?_ _ | refine Ext.alloc ?_ _ | refine xS ?_ _ | refine xT ?_ (by assumption))))).mono ?_; rintro e w8 ⟨rfl, rfl⟩) | (go_at_call 116; refine (max_mk g M h0M (by omega) E hEq.out M _ (hI8.out.ext (by repeat (with_reducible first | assumption | exact Ext.refl _ | refine Ext.drew ?_ | refine Ext.drewN ?_ _ | refine Ext.alloc ?_ _ | refine xS ?_ _ | refine xT ?_ (by assumption))))).mono ?_; rintro e w8 ⟨rfl, rfl⟩))
           go_ret2
           rw [hok.out, hE.out]
           have hmd := hid (decide_eq_false (Int.not_lt.2 hmx))
           exact ⟨g, (by show Ending.returned (.tuple #[.slice (some ⟨g, 0, none⟩) M M, .bool (decide (0 < mxTo E M))]) = _; rw [hmd.out]), (hO8.out.ext (by repeat (with_reducible first | assumption | exact Ext.refl _ | refine Ext.drew ?_ | refine Ext.drewN ?_ _ | refine Ext.alloc ?_ _ | refine xS ?_ _ | refine xT ?_ (by assumption)))).mono hgw.out, by have := hX8.out; exact (by repeat (with_reducible first | assumption | exact Ext.refl _ | refine Ext.drew ?_ | refine Ext.drewN ?_ _ | refine Ext.alloc ?_ _ | refine xS ?_ _ | refine xT ?_ (by assumption)))⟩)
      ·have hok : Hid (okE (ent t) s c M = false) := hid (by rw [hdefO.out]; simp [hmn])
       go_wp2_with (first | (go_at_call 77; refine (min_mk g M h0M (by omega) E hEq.out M _ (hI8.out.ext (by repeat (with_reducible first | assumption | exact Ext.refl _ | refine Ext.drew ?_ | refine Ext.drewN ?_ _ | refine Ext.alloc ?_ _ | refine xS ?_ _ | refine xT ?_ (by assumption))))).mono ?_; rintro e w8 ⟨rfl, rfl⟩) | (go_at_call 116; refine (max_mk g M h0M (by omega) E hEq.out M _ (hI8.out.ext (by repeat (with_reducible first | assumption | exact Ext.refl _ | refine Ext.drew ?_ | refine Ext.drewN ?_ _ | refine Ext.alloc ?_ _ | refine xS ?_ _ | refine xT ?_ (by assumption))))).mono ?_; rintro e w8 ⟨rfl, rfl⟩))
       go_ret2
       rw [hok.out, hE.out]
       exact ⟨g, rfl, (hO8.out.ext (by repeat (with_reducible first | assumption | exact Ext.refl _ | refine Ext.drew ?_ | refine Ext.drewN ?_ _ | refine Ext.alloc ?_ _ | refine xS ?_ _ | refine xT ?_ (by assumption)))).mono hgw.out, by have := hX8.out; exact (by repeat (with_reducible first | assumption | exact Ext.refl _ | refine Ext.drew ?_ | refine Ext.drewN ?_ _ | refine Ext.alloc ?_ _ | refine xS ?_ _ | refine xT ?_ (by assumption)))⟩

end Go.Proofs.Ytommhgcgaclflaa
