/- Two own slices that grow, whose headers lie in boxes. Plain facts on worlds. -/
import Derived.Test.YtommhgcgaclflaaMemC
import Derived.Maps.AppendAt
namespace Go.Proofs.Ytommhgcgaclflaa
set_option linter.unusedVariables false
set_option linter.unusedSimpArgs false
set_option linter.unusedSectionVars false
set_option linter.unnecessarySimpa false
open Go Go.RowKit

theorem appD_wp {P : Program} {w : World} {o : Oper} {a : Act} {K : Act → World → Prop} {Q : Exit → Act → World → Prop} (s x : Operand) (t : TypeId)
 (ho : o.op = .call { callee := .builtin .append, args := #[s, x], argTypes := #[t, t] })
 (e : TypeId) (ht : P.underlying t = some (.slice e)) (he : ElemI P e) (base : Nat) (l k : List Int) (v : Value) (hs : a.eval s = v) (ad : Option Addr) (c : Nat) (hx : a.eval x = .slice ad k.length c)
 (hown : OwnI w base e v l) (hc : Ints w ad k) (hk : 0 < k.length) (hl : l.length + k.length ≤ 1099511627776) (hbase : base ≤ w.heap.size)
 (h : ∀ b cap w', OwnI w' base e (.slice (some ⟨b, 0, none⟩) (l ++ k).length cap) (l ++ k) → w.grownBy w' v.ownBlock → (v.ownBlock = some b ∨ b = w.heap.size) → base ≤ b →
  K (a.put o.dst (.slice (some ⟨b, 0, none⟩) (l ++ k).length cap)) w') : o.wp P a w K Q := by
 obtain ⟨i, hi, hz, hsz, hby⟩ := he
 obtain ⟨b0, off0, rfl, _, hcell⟩ := hc.at hk
 obtain ⟨v', w', hr, hown', hg, hn, hat⟩ := run_append_own_at (P := P) w base t o.type e i (.int .i64 0) 1 8 ht hi hz hsz hby rfl (by decide) v l.length _ hown ⟨b0, off0, none⟩ k.length c (k.map (Value.int .i64)) (by simp) (by
  intro j u hj
  simp only [List.getElem?_map, Option.map_eq_some_iff] at hj
  obtain ⟨z, hz, rfl⟩ := hj
  obtain ⟨hj, rfl⟩ := List.getElem?_eq_some_iff.1 hz
  have := hcell j hj
  rw [nth_lt hj] at this
  rw [← this]
  unfold Addr.add
  split
  ·rename_i h0; subst h0; rfl
  ·rfl) (by
  intro u hu
  simp at hu
  obtain ⟨z, _, rfl⟩ := hu
  rfl) (by unfold maxLen; omega) (by omega) hbase
 have hv : ¬ v' = .slice none 0 0 := fun e => by have := (hn.1 e).2; omega
 rcases hown'.2 with ⟨e1, _⟩ | ⟨g, cap, cur, rfl, hb, r⟩
 ·exact absurd e1 hv
 ·have e : l.length + k.length = (l ++ k).length := by simp
  have e2 : l.map (Value.int .i64) ++ k.map (Value.int .i64) = (l ++ k).map (Value.int .i64) := by simp
  rw [e, e2] at hown'
  rw [e] at hr
  unfold Oper.wp execOp
  simp only [ho, resolve, invoke, builtin, Sem.run_bind, Sem.run_pure, Result.andThen_ok, List.map_toArray, List.map_cons, List.map_nil, hs, hx, hr]
  refine h g cap w' hown' hg ?_ hb
  rcases hat with hat | hat
  ·exact .inl hat.symm
  ·exact .inr (Option.some.inj hat)

def Apart (v u : Value) : Prop := ∀ b, v.ownBlock = some b → u.ownBlock ≠ some b
theorem Apart.symm {v u : Value} (h : Apart v u) : Apart u v := fun b e f => h b f e
theorem grow_one {w w' : World} {base : Nat} {e : TypeId} {v u : Value} {l k : List Int} {b n cap : Nat} (hg : w.grownBy w' v.ownBlock) (ho : OwnI w base e v l) (hu : OwnI w base e u k) (ha : Apart v u) (hb : v.ownBlock = some b ∨ b = w.heap.size) :
 OwnI w' base e u k ∧ Apart (.slice (some ⟨b, 0, none⟩) n cap) u ∧ (∀ p : Addr, p.block < base → p.block < w.heap.size → w'.cell? p = w.cell? p ∧ w'.frozen? p = w.frozen? p) ∧ (∀ w0, Ext w0 w → w0.heap.size ≤ base → Ext w0 w') ∧ w.heap.size ≤ w'.heap.size := by
 refine ⟨?_, ?_, ?_, ?_, hg.size⟩
 ·refine World.ownsRow.kept hu hg ?_
  cases hub : u.ownBlock with
  | none => exact .inl rfl
  | some g => exact .inr fun h => ha g h.symm hub
 ·intro g hgb hug
  have e : b = g := by simpa [Value.ownBlock] using hgb
  subst e
  rcases hb with h | h
  ·exact ha b h hug
  ·have := (OwnI.block hu b hug).2; omega
 ·intro p hp hps
  have hh : w'.heap[p.block]? = w.heap[p.block]? := hg.block p.block hps fun e => by have := (OwnI.block ho _ e.symm).1; omega
  exact ⟨World.cell?_of_block hh, World.frozen?_of_block hh⟩
 ·intro w0 k0 hw0
  exact Ext.grown k0 hg fun k hk => by have := (OwnI.block ho k hk).1; omega

theorem Ints.grown {w w' : World} {row : Option Nat} {b off : Nat} {l : List Int} (h : Ints w (some ⟨b, off, none⟩) l) (hg : w.grownBy w' row) (hne : row ≠ some b) : Ints w' (some ⟨b, off, none⟩) l := by
 intro i hi
 obtain ⟨b', off', e, hc⟩ := h i hi
 cases e
 exact ⟨b, off, rfl, hg.cell hc (fun e => hne e.symm)⟩
theorem ownI_new {wr : World} {base : Nat} {e : TypeId} {v : Value} {l : List Int} (h : OwnI wr base e v l) {b : Nat} (hb : wr.heap.size ≤ b) : v.ownBlock ≠ some b := fun he => by
 have := (OwnI.block h b he).2; omega

structure NewB (w : World) (Y : Nat) (x y z : Value) : Prop where
 c0 : w.cell? ⟨Y, 0, none⟩ = some x
 c1 : w.cell? ⟨Y, 1, none⟩ = some y
 c2 : w.cell? ⟨Y, 2, none⟩ = some z
 f0 : w.frozen? ⟨Y, 0, none⟩ = false
 f1 : w.frozen? ⟨Y, 1, none⟩ = false
 f2 : w.frozen? ⟨Y, 2, none⟩ = false
 lt : Y < w.heap.size
theorem NewB.ext {w w' : World} {Y : Nat} {x y z : Value} (h : NewB w Y x y z) (k : Ext w w') : NewB w' Y x y z :=
 ⟨k.cell h.c0, k.cell h.c1, k.cell h.c2, (k.frozen h.lt).trans h.f0, (k.frozen h.lt).trans h.f1, (k.frozen h.lt).trans h.f2, Nat.lt_of_lt_of_le h.lt k.size⟩
theorem newB (w : World) (x y z : Value) (T : TypeId) : NewB (w.alloc (.cells #[x, y, z] T)) w.heap.size x y z :=
 ⟨by simp [go_sem], by simp [go_sem], by simp [go_sem], by simp [go_sem], by simp [go_sem], by simp [go_sem], by simp⟩
theorem newB_of {w w1 : World} {x y z : Value} {T : TypeId} (h : Ext (w.alloc (.cells #[x, y, z] T)) w1) : NewB w1 w.heap.size x y z := (newB w x y z T).ext h
theorem newB_of2 {w w1 : World} {x y z x' y' z' : Value} {T T' : TypeId} (h : Ext ((w.alloc (.cells #[x, y, z] T)).alloc (.cells #[x', y', z'] T')) w1) : NewB w1 w.heap.size x y z ∧ NewB w1 (w.heap.size + 1) x' y' z' := by
 have h2 := newB_of h
 rw [World.size_alloc] at h2
 exact ⟨(newB w x y z T).ext (Ext.trans ((Ext.refl _).alloc _) h), h2⟩

structure BoxS (w : World) (C D G : Nat) (e : TypeId) (x1 y1 h1 x2 y2 h2 v1 : Value) (l1 : List Int) (v2 : Value) (l2 : List Int) : Prop where
 c0 : w.cell? ⟨C, 0, none⟩ = some x1
 c1 : w.cell? ⟨C, 1, none⟩ = some y1
 c2 : w.cell? ⟨C, 2, none⟩ = some h1
 cf : w.frozen? ⟨C, 2, none⟩ = false
 d0 : w.cell? ⟨D, 0, none⟩ = some x2
 d1 : w.cell? ⟨D, 1, none⟩ = some y2
 d2 : w.cell? ⟨D, 2, none⟩ = some h2
 df : w.frozen? ⟨D, 2, none⟩ = false
 ow1 : OwnI w G e v1 l1
 ow2 : OwnI w G e v2 l2
 ap : Apart v1 v2
 hG : G ≤ w.heap.size
 cg : C < G
 dg : D < G
theorem BoxS.ext {w w' : World} {C D G : Nat} {e : TypeId} {x1 y1 h1 x2 y2 h2 v1 v2 : Value} {l1 l2 : List Int} (T : BoxS w C D G e x1 y1 h1 x2 y2 h2 v1 l1 v2 l2) (k : Ext w w') : BoxS w' C D G e x1 y1 h1 x2 y2 h2 v1 l1 v2 l2 := by
 have hc : C < w.heap.size := Nat.lt_of_lt_of_le T.cg T.hG
 have hd : D < w.heap.size := Nat.lt_of_lt_of_le T.dg T.hG
 exact ⟨k.cell T.c0, k.cell T.c1, k.cell T.c2, (k.frozen hc).trans T.cf, k.cell T.d0, k.cell T.d1, k.cell T.d2, (k.frozen hd).trans T.df, T.ow1.ext k, T.ow2.ext k, T.ap, Nat.le_trans T.hG k.size, T.cg, T.dg⟩
theorem BoxS.grow1 {w w' : World} {C D G : Nat} {e : TypeId} {x1 y1 h1 x2 y2 h2 v1 v2 : Value} {l1 l2 l : List Int} {b n cap : Nat} (T : BoxS w C D G e x1 y1 h1 x2 y2 h2 v1 l1 v2 l2) (hg : w.grownBy w' v1.ownBlock) (ho : OwnI w' G e (.slice (some ⟨b, 0, none⟩) n cap) l) (hat : v1.ownBlock = some b ∨ b = w.heap.size) :
 BoxS w' C D G e x1 y1 h1 x2 y2 h2 (.slice (some ⟨b, 0, none⟩) n cap) l v2 l2 ∧ ∀ w0, Ext w0 w → w0.heap.size ≤ G → Ext w0 w' := by
 have hc : C < w.heap.size := Nat.lt_of_lt_of_le T.cg T.hG
 have hd : D < w.heap.size := Nat.lt_of_lt_of_le T.dg T.hG
 obtain ⟨g1, g2, g3, g4, g5⟩ := grow_one (n := n) (cap := cap) hg T.ow1 T.ow2 T.ap hat
 have kc := fun o => g3 ⟨C, o, none⟩ T.cg hc
 have kd := fun o => g3 ⟨D, o, none⟩ T.dg hd
 exact ⟨⟨(kc 0).1.trans T.c0, (kc 1).1.trans T.c1, (kc 2).1.trans T.c2, (kc 2).2.trans T.cf, (kd 0).1.trans T.d0, (kd 1).1.trans T.d1, (kd 2).1.trans T.d2, (kd 2).2.trans T.df, ho, g1, g2, Nat.le_trans T.hG g5, T.cg, T.dg⟩, g4⟩
theorem BoxS.swap {w : World} {C D G : Nat} {e : TypeId} {x1 y1 h1 x2 y2 h2 v1 v2 : Value} {l1 l2 : List Int} (T : BoxS w C D G e x1 y1 h1 x2 y2 h2 v1 l1 v2 l2) : BoxS w D C G e x2 y2 h2 x1 y1 h1 v2 l2 v1 l1 :=
 ⟨T.d0, T.d1, T.d2, T.df, T.c0, T.c1, T.c2, T.cf, T.ow2, T.ow1, T.ap.symm, T.hG, T.dg, T.cg⟩
theorem BoxS.grow2 {w w' : World} {C D G : Nat} {e : TypeId} {x1 y1 h1 x2 y2 h2 v1 v2 : Value} {l1 l2 l : List Int} {b n cap : Nat} (T : BoxS w C D G e x1 y1 h1 x2 y2 h2 v1 l1 v2 l2) (hg : w.grownBy w' v2.ownBlock) (ho : OwnI w' G e (.slice (some ⟨b, 0, none⟩) n cap) l) (hat : v2.ownBlock = some b ∨ b = w.heap.size) :
 BoxS w' C D G e x1 y1 h1 x2 y2 h2 v1 l1 (.slice (some ⟨b, 0, none⟩) n cap) l ∧ ∀ w0, Ext w0 w → w0.heap.size ≤ G → Ext w0 w' := by
 obtain ⟨a, b⟩ := T.swap.grow1 hg ho hat
 exact ⟨a.swap, b⟩
theorem BoxS.put {w : World} {C D G : Nat} {e : TypeId} {x1 y1 h1 x2 y2 h2 : Value} {l1 l2 : List Int} {b n cap b' n' cap' : Nat} (T : BoxS w C D G e x1 y1 h1 x2 y2 h2 (.slice (some ⟨b, 0, none⟩) n cap) l1 (.slice (some ⟨b', 0, none⟩) n' cap') l2) (hb : G ≤ b) (hb' : G ≤ b') (hne : C ≠ D) :
 BoxS ((w.setCell ⟨C, 2, none⟩ (.slice (some ⟨b, 0, none⟩) n cap)).setCell ⟨D, 2, none⟩ (.slice (some ⟨b', 0, none⟩) n' cap')) C D G e x1 y1 (.slice (some ⟨b, 0, none⟩) n cap) x2 y2 (.slice (some ⟨b', 0, none⟩) n' cap') (.slice (some ⟨b, 0, none⟩) n cap) l1 (.slice (some ⟨b', 0, none⟩) n' cap') l2 := by
 obtain ⟨c0, c1, c2, cf, d0, d1, d2, df, ow1, ow2, ap, hG, cg, dg⟩ := T
 have hne' : D ≠ C := Ne.symm hne
 refine ⟨by simp [go_sem, *], by simp [go_sem, *], by simp [go_sem, *], by simp [go_sem, *], by simp [go_sem, *], by simp [go_sem, *], by simp [go_sem, *], by simp [go_sem, *], ?_, ?_, ap, by simpa using hG, cg, dg⟩
 ·exact OwnI.setBox (OwnI.setBox ow1 hb cg _) hb dg _
 ·exact OwnI.setBox (OwnI.setBox ow2 hb' cg _) hb' dg _

end Go.Proofs.Ytommhgcgaclflaa
