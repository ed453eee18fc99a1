/- Texts of one proof, laid together: MemT, Tab, Tm. -/
import Derived.Test.YtpnfhcnnodolbaaZY2
import Derived.Test.YtpnfhcnnodolbaaZProofsA34
import Derived.Test.YtpnfhcnnodolbaaZY3
import Derived.Test.YtpnfhcnnodolbaaZY8
import Derived.Maps.AppendAt
set_option linter.unusedVariables false
set_option linter.unusedSimpArgs false
set_option linter.unusedSectionVars false
set_option linter.unnecessarySimpa false
namespace Go.Proofs.Ytpnfhcnnodolbaa
open Go Go.RowKit
def ElemS (P : Program) (e : TypeId) : Prop := ∃ i, P.info? e = some i ∧ i.zero = some (.slice none 0 0) ∧ i.size = 1 ∧ i.bytes = 24
theorem elemS_mk {P : Program} {e : TypeId} (h : (P.info? e).map (fun i => (i.zero, i.size, i.bytes)) = some (some (.slice none 0 0), 1, 24)) : ElemS P e := by
 cases hi : P.info? e with
 | none => simp [hi] at h
 | some i =>
  simp [hi] at h
  exact ⟨i, hi, h.1, h.2.1, h.2.2⟩
open Game
theorem mnTo_at (f : Nat → Int) {n : Nat} (h : 0 < n) : ∃ i, i < n ∧ f i = mnTo f n := by
 induction n with
 | zero => omega
 | succ k ih =>
  simp only [mnTo]
  rcases Nat.eq_zero_or_pos k with rfl | hk
  ·exact ⟨0, by omega, by simp [mnTo]⟩
  ·obtain ⟨i, hi, e⟩ := ih hk
   rcases Int.le_total (mnTo f k) (f k) with g | g
   ·exact ⟨i, by omega, by omega⟩
   ·exact ⟨k, by omega, by omega⟩
theorem mxTo_ge {f : Nat → Int} {n i : Nat} (h : i < n) : f i ≤ mxTo f n := by
 induction n with
 | zero => omega
 | succ k ih =>
  simp only [mxTo]
  rcases Nat.lt_or_ge i k with g | g
  ·have := ih g; omega
  ·obtain rfl : i = k := by omega
   omega
theorem mxTo_at (f : Nat → Int) {n : Nat} (h : 0 < n) : ∃ i, i < n ∧ f i = mxTo f n := by
 induction n with
 | zero => omega
 | succ k ih =>
  simp only [mxTo]
  rcases Nat.eq_zero_or_pos k with rfl | hk
  ·exact ⟨0, by omega, by simp [mxTo]⟩
  ·obtain ⟨i, hi, e⟩ := ih hk
   rcases Int.le_total (f k) (mxTo f k) with g | g
   ·exact ⟨i, by omega, by omega⟩
   ·exact ⟨k, by omega, by omega⟩
theorem appM_wp {P : Program} {w : World} {o : Oper} {a : Act} {K : Act → World → Prop} {Q : Exit → Act → World → Prop} (s x : Operand) (ty : TypeId)
 (ho : o.op = .call { callee := .builtin .append, args := #[s, x], argTypes := #[ty, ty] })
 (e : TypeId) (ht : P.underlying ty = some (.slice e)) (he : ElemS P e) (base lo : Nat) (t : List (List Int)) (v : Value) (hs : a.eval s = v) (b0 k c0 : Nat) (hx : a.eval x = .slice (some ⟨b0, 0, none⟩) k c0)
 (hown : OwnT w base lo e v t) (us : List Value) (rs : List (List Int)) (hk : us.length = k) (k0 : 0 < k) (k1 : k ≤ 1000) (hc : ∀ j u, us[j]? = some u → w.cell? ⟨b0, j, none⟩ = some u) (hr : Sls w us rs) (hap' : Apt lo v us rs)
 (hl : t.length ≤ 1099511627776) (hbase : base ≤ w.heap.size)
 (h : ∀ b cap w', OwnT w' base lo e (.slice (some ⟨b, 0, none⟩) (t.length + k) cap) (t ++ rs) → w.grownBy w' v.ownBlock → (v.ownBlock = some b ∨ b = w.heap.size) → base ≤ b →
  K (a.put o.dst (.slice (some ⟨b, 0, none⟩) (t.length + k) cap)) w') : o.wp P a w K Q := by
 obtain ⟨i, hi, hz, hsz, hby⟩ := he
 obtain ⟨vs, hv, hsl, hap⟩ := hown
 subst hk
 obtain ⟨v', w', hr1, hown', hg, hn, hat⟩ := run_append_own_at (P := P) w base ty o.type e i (.slice none 0 0) 1 24 ht hi hz hsz hby rfl (by decide) v vs.length _ hv ⟨b0, 0, none⟩ us.length c0 us (by simp) (by
  intro j u hj
  have := hc j u hj
  rcases Nat.eq_zero_or_pos j with h0 | h0
  ·subst h0; simpa [Addr.add] using this
  ·simpa [Addr.add, show ¬ j = 0 by omega] using this) (by
  intro u hu
  obtain ⟨j, hj, rfl⟩ := List.getElem_of_mem hu
  obtain ⟨ai, ci, h1, _⟩ := hr.2 j (by rw [← hr.1]; exact hj)
  rw [List.getElem?_eq_getElem hj] at h1
  rw [Option.some.inj h1]; rfl) (by have := hsl.1; unfold maxLen; omega) (by have := hsl.1; omega) hbase
 have hne : ¬ v' = .slice none 0 0 := fun e => by have := (hn.1 e).2; omega
 rcases hown'.2 with ⟨e1, _⟩ | ⟨g, cap, cur, rfl, hb, rr⟩
 ·exact absurd e1 hne
 ·have e1 : vs.length + us.length = (vs ++ us).length := by simp
  have e2 : vs.length + us.length = t.length + us.length := by rw [hsl.1]
  have hat' : v.ownBlock = some g ∨ g = w.heap.size := by
   rcases hat with hat | hat
   ·exact .inl hat.symm
   ·exact .inr (Option.some.inj hat)
  have hsl' : Sls w' vs t := hsl.grown hg (fun i b off n c hi h0 hvi e => (hap i b off n c hi h0 hvi).1 e)
  have hrs' : Sls w' us rs := hr.grown hg (fun i b off n c hi h0 hvi e => (hap' i b off n c hi h0 hvi).1 e)
  have lt_of : ∀ {ai : Option Addr} {l : List Int} {b off : Nat}, Ints w ai l → 0 < l.length → ai = some ⟨b, off, none⟩ → b < w.heap.size := by
   intro ai l b off hI h0 e
   obtain ⟨b', off', e', hlt, _⟩ := hI.at h0
   rw [e] at e'; cases e'; exact hlt
  have one : ∀ {vs : List Value} {t : List (List Int)}, Sls w vs t → Apt lo v vs t → ∀ i b off n c, i < t.length → 0 < (row t i).length → vs[i]? = some (.slice (some ⟨b, off, none⟩) n c) → some g ≠ some b ∧ lo ≤ b := by
   intro vs t hsl hap i b off n c hlt h0 hvi
   obtain ⟨q1, q2⟩ := hap i b off n c hlt h0 hvi
   refine ⟨fun e => ?_, q2⟩
   cases e
   rcases hat' with h1 | h1
   ·exact q1 h1
   ·obtain ⟨ai, ci, h2, h3, _⟩ := hsl.2 i hlt
    rw [hvi] at h2
    cases h2
    have := lt_of h3 h0 rfl
    omega
  have hapf : Apt lo (.slice (some ⟨g, 0, none⟩) (vs.length + us.length) cap) (vs ++ us) (t ++ rs) := by
   intro i b off n c hi h0 hvi
   have hgb : Value.ownBlock (.slice (some ⟨g, 0, none⟩) (vs.length + us.length) cap) = some g := rfl
   rw [hgb]
   rcases Nat.lt_or_ge i t.length with hlt | hge
   ·rw [row_append_left hlt] at h0
    rw [List.getElem?_append_left (by rw [hsl.1]; exact hlt)] at hvi
    exact one hsl hap i b off n c hlt h0 hvi
   ·rw [row_append_right hge] at h0
    rw [List.getElem?_append_right (by rw [hsl.1]; exact hge), hsl.1] at hvi
    exact one hr hap' _ b off n c (by rw [List.length_append] at hi; omega) h0 hvi
  rw [e1] at hown'
  rw [e2] at hr1
  have hfin : OwnT w' base lo e (.slice (some ⟨g, 0, none⟩) (t.length + us.length) cap) (t ++ rs) := ⟨_, by rw [← e2, e1]; exact hown', hsl'.append hrs', by rw [← e2]; exact hapf⟩
  unfold Oper.wp execOp
  simp only [ho, resolve, invoke, builtin, Sem.run_bind, Sem.run_pure, Result.andThen_ok, List.map_toArray, List.map_cons, List.map_nil, hs, hx, hr1]
  exact h g cap w' hfin hg hat' hb
theorem sls_one {w : World} {a : Option Addr} {c n : Nat} {r : List Int} (h : Ints w a r) (hn : n = r.length) (hc : r.length ≤ c) : Sls w [.slice a n c] [r] := by
 subst hn
 exact Sls.snoc (Sls.nil w) h hc
theorem sls_two {w : World} {a b : Option Addr} {c d n m : Nat} {r q : List Int} (h : Ints w a r) (k : Ints w b q) (hn : n = r.length) (hm : m = q.length) (hc : r.length ≤ c) (hd : q.length ≤ d) : Sls w [.slice a n c, .slice b m d] [r, q] := by
 subst hm
 exact Sls.snoc (sls_one h hn hc) k hd
theorem apt_one {lo : Nat} {v : Value} {a : Option Addr} {c n : Nat} {r : List Int} (h : ∀ b off, 0 < r.length → a = some ⟨b, off, none⟩ → v.ownBlock ≠ some b ∧ lo ≤ b) : Apt lo v [.slice a n c] [r] := by
 intro i b off n' c' hi h0 hv
 match i, hi with
 | 0, _ =>
  simp at hv
  exact h b off (by simpa [row] using h0) hv.1
theorem apt_two {lo : Nat} {v : Value} {a d : Option Addr} {c n c' n' : Nat} {r q : List Int} (h : ∀ b off, 0 < r.length → a = some ⟨b, off, none⟩ → v.ownBlock ≠ some b ∧ lo ≤ b)
 (k : ∀ b off, 0 < q.length → d = some ⟨b, off, none⟩ → v.ownBlock ≠ some b ∧ lo ≤ b) : Apt lo v [.slice a n c, .slice d n' c'] [r, q] := by
 intro i b off n' c' hi h0 hv
 match i, hi with
 | 0, _ =>
  simp at hv
  exact h b off (by simpa [row] using h0) hv.1
 | 1, _ =>
  simp at hv
  exact k b off (by simpa [row] using h0) hv.1
theorem lits {w : World} {us : List Value} {t : TypeId} {n : Nat} (h : n = w.heap.size) : ∀ j u, us[j]? = some u → (w.alloc (.cells us.toArray t)).cell? ⟨n, j, none⟩ = some u := by
 subst h
 intro j u hj
 simp [go_sem, hj]
theorem app_rows {P : Program} {w : World} {ops : Array Oper} {rest : List Oper} {o : Oper} {a : Act} {Q : Exit → Act → World → Prop} (hgd : o.guard = none) (s x : Operand) (ty : TypeId)
 (ho : o.op = .call { callee := .builtin .append, args := #[s, x], argTypes := #[ty, ty] })
 (e : TypeId) (ht : P.underlying ty = some (.slice e)) (he : ElemS P e) (base : Nat) (t : List (List Int)) (v : Value) (hs : a.eval s = v) (b0 k c0 : Nat) (hx : a.eval x = .slice (some ⟨b0, 0, none⟩) k c0)
 (hown : OwnT w base 0 e v t) (us : List Value) (rs : List (List Int)) (hk : us.length = k) (k0 : 0 < k) (k1 : k ≤ 1000) (hc : ∀ j u, us[j]? = some u → w.cell? ⟨b0, j, none⟩ = some u) (hr : Sls w us rs) (hap' : Apt 0 v us rs)
 (hl : t.length ≤ 1099511627776) (hbase : base ≤ w.heap.size)
 (h : ∀ b cap w', OwnT w' base 0 e (.slice (some ⟨b, 0, none⟩) (t.length + k) cap) (t ++ rs) → (∀ w0, Ext w0 w → w0.heap.size ≤ base → Ext w0 w') → base ≤ b →
  wpList P ops Q rest (a.put o.dst (.slice (some ⟨b, 0, none⟩) (t.length + k) cap)) w') : wpList P ops Q (o :: rest) a w :=
 wpList_plain hgd fun K hK => appM_wp s x ty ho e ht he base 0 t v hs b0 k c0 hx hown us rs hk k0 k1 hc hr hap' hl hbase fun b cap w' h1 h2 h3 h4 => hK _ _ (h b cap w' h1 (fun w0 e0 e1 => e0.grown h2 fun j hj => by have := (hown.block j hj).1; omega) h4)
theorem OwnI.capL {w : World} {base : Nat} {e : TypeId} {a : Option Addr} {n cap : Nat} {l : List Int} (h : OwnI w base e (.slice a n cap) l) : l.length ≤ cap := by
 have := h.cap; omega
theorem OwnT.older {w : World} {base base2 lo : Nat} {e e2 : TypeId} {v : Value} {t : List (List Int)} {a : Option Addr} {n cap : Nat} {l : List Int} (h : OwnT w base lo e v t) {W : World} (k : OwnI W base2 e2 (.slice a n cap) l) (hb : w.heap.size ≤ base2) :
 ∀ b off, 0 < l.length → a = some ⟨b, off, none⟩ → v.ownBlock ≠ some b ∧ 0 ≤ b := by
 intro b off h0 ha
 have h1 := k.apart b off h0 ha
 exact ⟨fun e => by have := (h.block _ e).2; omega, Nat.zero_le _⟩
end Go.Proofs.Ytpnfhcnnodolbaa
