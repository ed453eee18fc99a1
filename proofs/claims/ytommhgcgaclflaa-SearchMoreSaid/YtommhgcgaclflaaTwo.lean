/- A table that grows in a box beside a list that grows. Over no program. -/
import Derived.Test.YtommhgcgaclflaaZB6
import Derived.Test.YtommhgcgaclflaaMemG
import Derived.Test.YtommhgcgaclflaaZB5
namespace Go.Proofs.Ytommhgcgaclflaa
set_option linter.unusedVariables false
set_option linter.unusedSimpArgs false
set_option linter.unusedSectionVars false
set_option linter.unnecessarySimpa false
open Go Go.RowKit

theorem appW_wp {P : Program} {w : World} {o : Oper} {a : Act} {K : Act → World → Prop} {Q : Exit → Act → World → Prop} (s x : Operand) (ty : TypeId)
 (ho : o.op = .call { callee := .builtin .append, args := #[s, x], argTypes := #[ty, ty] })
 (e : TypeId) (ht : P.underlying ty = some (.slice e)) (he : ElemS P e) (base : Nat) (vs : List Value) (v : Value) (hs : a.eval s = v) (b0 : Nat) (hx : a.eval x = .slice (some ⟨b0, 0, none⟩) 1 1)
 (hown : OwnV w base e v vs) (u : Value) (hc : w.cell? ⟨b0, 0, none⟩ = some u) (h1 : u.oneCell' = true) (hl : vs.length ≤ 1000) (hbase : base ≤ w.heap.size)
 (h : ∀ b cap w', OwnV w' base e (.slice (some ⟨b, 0, none⟩) (vs.length + 1) cap) (vs ++ [u]) → w.grownBy w' v.ownBlock → (v.ownBlock = some b ∨ b = w.heap.size) → base ≤ b →
  K (a.put o.dst (.slice (some ⟨b, 0, none⟩) (vs.length + 1) cap)) w') : o.wp P a w K Q := by
 obtain ⟨i, hi, hz, hsz, hby⟩ := he
 obtain ⟨v', w', hr1, hown', hg, hn, hat⟩ := run_append_own_at (P := P) w base ty o.type e i (.slice none 0 0) 1 24 ht hi hz hsz hby rfl (by decide) v vs.length _ hown ⟨b0, 0, none⟩ 1 1 [u] rfl (by
  intro j z hj
  match j, hj with
  | 0, hj => simp at hj; subst hj; simpa [Addr.add] using hc) (by
  intro z hz
  simp at hz; subst hz; exact h1) (by unfold maxLen; omega) (by omega) hbase
 have hne : ¬ v' = .slice none 0 0 := fun e => by have := (hn.1 e).2; simp at this
 rcases hown'.2 with ⟨e1, _⟩ | ⟨g, cap, cur, rfl, hb, rr⟩
 ·exact absurd e1 hne
 ·have e1 : vs.length + 1 = (vs ++ [u]).length := by simp
  have ho2 : OwnV w' base e (.slice (some ⟨g, 0, none⟩) (vs.length + 1) cap) (vs ++ [u]) := by unfold OwnV; rw [← e1]; exact hown'
  unfold Oper.wp execOp
  simp only [ho, resolve, invoke, builtin, Sem.run_bind, Sem.run_pure, Result.andThen_ok, List.map_toArray, List.map_cons, List.map_nil, hs, hx, hr1]
  refine h g cap w' ho2 hg ?_ hb
  rcases hat with hat | hat
  ·exact .inl hat.symm
  ·exact .inr (Option.some.inj hat)

structure Two (W : World) (D : Nat) (eT eI : TypeId) (vv : Value) (vs : List Value) (T : List (List Int)) (s : Value) (L : List Int) : Prop where
 c : W.cell? ⟨D, 0, none⟩ = some vv
 f : W.frozen? ⟨D, 0, none⟩ = false
 l : D < W.heap.size
 v : OwnV W (D + 1) eT vv vs
 q : Sls W vs T
 p : ∀ i b off n c, i < T.length → 0 < (row T i).length → vs[i]? = some (.slice (some ⟨b, off, none⟩) n c) → vv.ownBlock ≠ some b ∧ s.ownBlock ≠ some b ∧ D + 1 ≤ b
 r : OwnI W (D + 1) eI s L
 a : Apart vv s
theorem Two.ext {W W' : World} {D : Nat} {eT eI : TypeId} {vv : Value} {vs : List Value} {T : List (List Int)} {s : Value} {L : List Int} (h : Two W D eT eI vv vs T s L) (k : Ext W W') : Two W' D eT eI vv vs T s L :=
 ⟨k.cell h.c, (k.frozen h.l).trans h.f, Nat.lt_of_lt_of_le h.l k.size, h.v.ext k, h.q.ext k, h.p, h.r.ext k, h.a⟩
theorem Sls.lt {w : World} {vs : List Value} {t : List (List Int)} (h : Sls w vs t) {i b off n c : Nat} (hi : i < t.length) (h0 : 0 < (row t i).length) (e : vs[i]? = some (.slice (some ⟨b, off, none⟩) n c)) : b < w.heap.size := by
 obtain ⟨ai, ci, h1, h2, _⟩ := h.2 i hi
 rw [e] at h1
 cases h1
 obtain ⟨b', off', e', hlt, _⟩ := h2.at h0
 cases e'; exact hlt
theorem Two.growS {W W' : World} {D : Nat} {eT eI : TypeId} {vv : Value} {vs : List Value} {T : List (List Int)} {s : Value} {L L' : List Int} {b n cap : Nat} (h : Two W D eT eI vv vs T s L) (hg : W.grownBy W' s.ownBlock)
 (ho : OwnI W' (D + 1) eI (.slice (some ⟨b, 0, none⟩) n cap) L') (hb : s.ownBlock = some b ∨ b = W.heap.size) : Two W' D eT eI vv vs T (.slice (some ⟨b, 0, none⟩) n cap) L' := by
 have hs : ∀ k, s.ownBlock = some k → D + 1 ≤ k := fun k hk => (OwnI.block h.r k hk).1
 have hh : W'.heap[D]? = W.heap[D]? := hg.block D h.l fun e => by have := hs _ e.symm; omega
 refine ⟨(World.cell?_of_block hh).trans h.c, (World.frozen?_of_block hh).trans h.f, Nat.lt_of_lt_of_le h.l hg.size, h.v.grown hg fun g hgv e => h.a g hgv e, h.q.grown hg fun i b off n c hi h0 e => (h.p i b off n c hi h0 e).2.1, fun i b' off n' c hi h0 e => ?_, ho, fun k hk hks => ?_⟩
 ·obtain ⟨h1, h2, h3⟩ := h.p i b' off n' c hi h0 e
  refine ⟨h1, fun e2 => ?_, h3⟩
  have e3 : b = b' := by simpa [Value.ownBlock] using e2
  subst e3
  rcases hb with hb | hb
  ·exact h2 hb
  ·have := h.q.lt hi h0 e; omega
 ·have e3 : b = k := by simpa [Value.ownBlock] using hks
  subst e3
  rcases hb with hb | hb
  ·exact h.a b hk hb
  ·have := (h.v.block b hk).2; omega
theorem Two.growT {W W' : World} {D : Nat} {eT eI : TypeId} {vv : Value} {vs : List Value} {T : List (List Int)} {s : Value} {L : List Int} {b n cap : Nat} (h : Two W D eT eI vv vs T s L) (hg : W.grownBy W' vv.ownBlock)
 {ra : Nat} {rn rc : Nat} {r : List Int} (hr : Ints W (some ⟨ra, 0, none⟩) r) (hn : rn = r.length) (hrc : rn ≤ rc) (h1 : vv.ownBlock ≠ some ra) (h2 : s.ownBlock ≠ some ra) (h3 : D + 1 ≤ ra) (h4 : ra < W.heap.size)
 (ho : OwnV W' (D + 1) eT (.slice (some ⟨b, 0, none⟩) n cap) (vs ++ [.slice (some ⟨ra, 0, none⟩) rn rc])) (hb : vv.ownBlock = some b ∨ b = W.heap.size) :
 Two (W'.setCell ⟨D, 0, none⟩ (.slice (some ⟨b, 0, none⟩) n cap)) D eT eI (.slice (some ⟨b, 0, none⟩) n cap) (vs ++ [.slice (some ⟨ra, 0, none⟩) rn rc]) (T ++ [r]) s L := by
 subst hn
 have hv : ∀ k, vv.ownBlock = some k → D + 1 ≤ k := fun k hk => (h.v.block k hk).1
 have hs : ∀ k, s.ownBlock = some k → D + 1 ≤ k ∧ k < W.heap.size := fun k hk => OwnI.block h.r k hk
 have hh : W'.heap[D]? = W.heap[D]? := hg.block D h.l fun e => by have := hv _ e.symm; omega
 have hc : W'.cell? ⟨D, 0, none⟩ = some vv := (World.cell?_of_block hh).trans h.c
 have hf : W'.frozen? ⟨D, 0, none⟩ = false := (World.frozen?_of_block hh).trans h.f
 have hl : D < W'.heap.size := Nat.lt_of_lt_of_le h.l hg.size
 have hq : Sls W' vs T := h.q.grown hg fun i b off n c hi h0 e => (h.p i b off n c hi h0 e).1
 have hr' : Ints W' (some ⟨ra, 0, none⟩) r := hr.grownBy hg h1
 have hq2 : Sls W' (vs ++ [.slice (some ⟨ra, 0, none⟩) r.length rc]) (T ++ [r]) := hq.snoc hr' hrc
 have hro : OwnI W' (D + 1) eI s L := by
  refine World.ownsRow.kept h.r hg ?_
  cases hub : s.ownBlock with
  | none => exact .inl rfl
  | some g => exact .inr fun e => h.a g e.symm hub
 have hp : ∀ i b' off n' c, i < (T ++ [r]).length → 0 < (row (T ++ [r]) i).length → (vs ++ [.slice (some ⟨ra, 0, none⟩) r.length rc])[i]? = some (.slice (some ⟨b', off, none⟩) n' c) → b ≠ b' ∧ s.ownBlock ≠ some b' ∧ D + 1 ≤ b' := by
  intro i b' off n' c hi h0 e
  rcases Nat.lt_or_ge i T.length with g | g
  ·rw [row_append_left g] at h0
   rw [List.getElem?_append_left (by rw [h.q.1]; exact g)] at e
   obtain ⟨k1, k2, k3⟩ := h.p i b' off n' c g h0 e
   refine ⟨fun e2 => ?_, k2, k3⟩
   subst e2
   rcases hb with hb | hb
   ·exact k1 hb
   ·have := h.q.lt g h0 e; omega
  ·have e3 : i = vs.length := by have := h.q.1; simp at hi; omega
   rw [e3, List.getElem?_concat_length] at e
   cases e
   refine ⟨fun e2 => ?_, h2, h3⟩
   subst e2
   rcases hb with hb | hb
   ·exact h1 hb
   ·omega
 have hap : ∀ k, b = k → s.ownBlock ≠ some k := fun k e2 hks => by
  subst e2
  rcases hb with hb | hb
  ·exact h.a b hb hks
  ·have := (hs _ hks).2; omega
 have hbD : D + 1 ≤ b := by
  rcases hb with hb | hb
  ·exact hv b hb
  ·have := h.l; omega
 refine ⟨cell_put_eq hc, by rw [World.frozen?_setCell]; exact hf, by simpa using hl, ho.put (fun e => by have h9 : b = D := (by simpa [Value.ownBlock] using e); omega) _, ⟨hq2.1, fun i hi => ?_⟩, fun i b' off n' c hi h0 e => ?_, ?_, fun k hk => ?_⟩
 ·obtain ⟨ai, ci, k1, k2, k3⟩ := hq2.2 i hi
  refine ⟨ai, ci, k1, ?_, k3⟩
  rcases Nat.eq_zero_or_pos (row (T ++ [r]) i).length with h0 | h0
  ·rw [List.eq_nil_of_length_eq_zero h0]; exact Ints.nil _ _
  ·obtain ⟨b', off, rfl, _, _⟩ := k2.at h0
   exact k2.put (fun e => by have := (hp i b' off _ _ hi h0 k1).2.2; simp at e; omega) _
 ·obtain ⟨k1, k2, k3⟩ := hp i b' off n' c hi h0 e
  exact ⟨fun e2 => k1 (by simpa [Value.ownBlock] using e2), k2, k3⟩
 ·have hro1 : OwnV W' (D + 1) eI s (L.map (Value.int .i64)) := by
   have hro3 := hro
   unfold OwnI at hro3
   unfold OwnV
   rw [List.length_map]
   exact hro3
  have hro2 := hro1.put (p := ⟨D, 0, none⟩) (fun e => by have h9 : D + 1 ≤ D := (hs D e).1; omega) (.slice (some ⟨b, 0, none⟩) n cap)
  unfold OwnV at hro2
  rw [List.length_map] at hro2
  exact hro2
 ·have e3 : b = k := by simpa [Value.ownBlock] using hk
  exact hap k e3
theorem Two.box {W W' : World} {D : Nat} {eT eI : TypeId} {vv : Value} {vs : List Value} {T : List (List Int)} {s : Value} {L : List Int} (h : Two W D eT eI vv vs T s L) (hg : W.grownBy W' vv.ownBlock) : W'.cell? ⟨D, 0, none⟩ = some vv ∧ W'.frozen? ⟨D, 0, none⟩ = false := by
 have hv : ∀ k, vv.ownBlock = some k → D + 1 ≤ k := fun k hk => (h.v.block k hk).1
 have hh : W'.heap[D]? = W.heap[D]? := hg.block D h.l fun e => by have := hv _ e.symm; omega
 exact ⟨(World.cell?_of_block hh).trans h.c, (World.frozen?_of_block hh).trans h.f⟩
theorem appN_wp {P : Program} {w : World} {o : Oper} {a : Act} {K : Act → World → Prop} {Q : Exit → Act → World → Prop} (s x : Operand) (t : TypeId)
 (ho : o.op = .call { callee := .builtin .append, args := #[s, x], argTypes := #[t, t] })
 (e : TypeId) (ht : P.underlying t = some (.slice e)) (he : ElemI P e) (k : List Int) (n : Nat) (hn : n = k.length) (hs : a.eval s = .slice none 0 0) (ad : Option Addr) (c : Nat) (hx : a.eval x = .slice ad n c)
 (hc : Ints w ad k) (hk : 0 < n) (hl : n ≤ 1000)
 (h : ∀ b cap w', OwnI w' w.heap.size e (.slice (some ⟨b, 0, none⟩) n cap) k → Ext w w' → w.heap.size ≤ b → K (a.put o.dst (.slice (some ⟨b, 0, none⟩) n cap)) w') : o.wp P a w K Q := by
 subst hn
 refine appI_wp s x t ho e ht he w.heap.size [] k (.slice none 0 0) hs ad c hx (OwnI.nil _ _ _) hc hk (by simp; omega) (Nat.le_refl _) fun b cap w' h1 h2 h3 => ?_
 rw [List.nil_append] at h1 ⊢
 exact h b cap w' h1 (h2 w (Ext.refl _) (Nat.le_refl _)) h3
theorem Two.low {W W' : World} {D : Nat} {eT eI : TypeId} {vv : Value} {vs : List Value} {T : List (List Int)} {s : Value} {L : List Int} (h : Two W D eT eI vv vs T s L) (hg : W.grownBy W' vv.ownBlock ∨ W.grownBy W' s.ownBlock) : ∀ w0, Ext w0 W → w0.heap.size ≤ D + 1 → Ext w0 W' := fun w0 k0 h0 => by
 rcases hg with hg | hg
 ·exact Ext.grown k0 hg fun k hk => by have := (h.v.block k hk).1; omega
 ·exact Ext.grown k0 hg fun k hk => by have := (OwnI.block h.r k hk).1; omega
theorem Two.tab {W : World} {D : Nat} {eT eI : TypeId} {vv : Value} {vs : List Value} {T : List (List Int)} {s : Value} {L : List Int} (h : Two W D eT eI vv vs T s L) : ∃ a cap, vv = .slice a T.length cap ∧ Tab W a T := by
 rcases h.v.cells with ⟨rfl, rfl⟩ | ⟨g, cap, rfl, _, _, _, hc⟩
 ·obtain rfl : T = [] := List.eq_nil_of_length_eq_zero h.q.1.symm
  exact ⟨none, 0, rfl, Tab.nil _ _⟩
 ·refine ⟨_, cap, by rw [h.q.1], fun i hi => ?_⟩
  obtain ⟨ai, ci, h3, h4, h5⟩ := h.q.2 i hi
  exact ⟨g, 0, ai, ci, rfl, by rw [Nat.zero_add]; exact (hc i _ h3).1, h4, h5⟩
theorem Two.nil {W : World} {D : Nat} {eT eI : TypeId} (hc : W.cell? ⟨D, 0, none⟩ = some (.slice none 0 0)) (hf : W.frozen? ⟨D, 0, none⟩ = false) : Two W D eT eI (.slice none 0 0) [] [] (.slice none 0 0) [] :=
 ⟨hc, hf, cell_lt hc, World.ownsRow_nil W (D + 1) eT 1, Sls.nil W, fun i _ _ _ _ hi => absurd hi (by simp), OwnI.nil _ _ _, fun b h => by cases h⟩

end Go.Proofs.Ytommhgcgaclflaa
