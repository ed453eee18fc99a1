/- Texts of one proof, laid together: MemT, Tab, Met, Tm. -/
import Derived.Test.YtpnfhcnnodolbaaZY2
import Derived.Test.YtpnfhcnnodolbaaZY3
import Derived.Maps.AppendAt
set_option linter.unusedVariables false
set_option linter.unusedSimpArgs false
set_option linter.unusedSectionVars false
set_option linter.unnecessarySimpa false
namespace Go.Proofs.Ytpnfhcnnodolbaa
open Go Go.RowKit
def row (t : List (List Int)) (i : Nat) : List Int := t.getD i []
def ent (t : List (List Int)) (i k : Nat) : Int := nth (row t i) k
theorem row_lt {t : List (List Int)} {i : Nat} (h : i < t.length) : row t i = t[i] := by simp [row, h]
theorem row_append_left {t s : List (List Int)} {i : Nat} (h : i < t.length) : row (t ++ s) i = row t i := by simp [row, List.getElem?_append_left h]
theorem row_append_right {t s : List (List Int)} {i : Nat} (h : t.length ≤ i) : row (t ++ s) i = row s (i - t.length) := by simp [row, List.getElem?_append_right h]
def Tab (w : World) (a : Option Addr) (t : List (List Int)) : Prop :=
 ∀ i, i < t.length → ∃ b off ai ci, a = some ⟨b, off, none⟩ ∧ w.cell? ⟨b, off + i, none⟩ = some (.slice ai (row t i).length ci) ∧ Ints w ai (row t i) ∧ (row t i).length ≤ ci
theorem Tab.ext {w w' : World} {a : Option Addr} {t : List (List Int)} (h : Tab w a t) (k : Ext w w') : Tab w' a t :=
 fun i hi => let ⟨b, off, ai, ci, ha, hc, hI, hn⟩ := h i hi; ⟨b, off, ai, ci, ha, k.cell hc, hI.ext k, hn⟩
theorem Tab.nil (w : World) (a : Option Addr) : Tab w a [] := fun i hi => absurd hi (by simp)
theorem Tab.at {w : World} {a : Option Addr} {t : List (List Int)} (h : Tab w a t) (hl : 0 < t.length) :
 ∃ b off, a = some ⟨b, off, none⟩ ∧ b < w.heap.size ∧ ∀ i, i < t.length → ∃ ai ci, w.cell? ⟨b, off + i, none⟩ = some (.slice ai (row t i).length ci) ∧ Ints w ai (row t i) := by
 obtain ⟨b, off, _, _, ha, hc, _⟩ := h 0 hl
 refine ⟨b, off, ha, cell_lt hc, fun i hi => ?_⟩
 obtain ⟨b', off', ai, ci, ha', hc', hI, _⟩ := h i hi
 rw [ha] at ha'
 cases ha'
 exact ⟨ai, ci, hc', hI⟩
theorem Tab.atC {w : World} {a : Option Addr} {t : List (List Int)} (h : Tab w a t) (hl : 0 < t.length) :
 ∃ b off, a = some ⟨b, off, none⟩ ∧ b < w.heap.size ∧ ∀ i, i < t.length → ∃ ai ci, w.cell? ⟨b, off + i, none⟩ = some (.slice ai (row t i).length ci) ∧ Ints w ai (row t i) ∧ (row t i).length ≤ ci := by
 obtain ⟨b, off, _, _, ha, hc, _⟩ := h 0 hl
 refine ⟨b, off, ha, cell_lt hc, fun i hi => ?_⟩
 obtain ⟨b', off', ai, ci, ha', hc', hI, hn⟩ := h i hi
 rw [ha] at ha'
 cases ha'
 exact ⟨ai, ci, hc', hI, hn⟩
theorem Tab.fullC {w : World} {a : Option Addr} {t : List (List Int)} (h : Tab w a t) (hl : 0 < t.length) {n : Nat} (hn : ∀ i, i < t.length → (row t i).length = n) (h0 : 0 < n) :
 ∃ b off, ∃ B O C : Nat → Nat, a = some ⟨b, off, none⟩ ∧ b < w.heap.size ∧ ∀ i, i < t.length → w.cell? ⟨b, off + i, none⟩ = some (.slice (some ⟨B i, O i, none⟩) n (C i)) ∧ Ints w (some ⟨B i, O i, none⟩) (row t i) ∧ (∀ k, k < n → w.cell? ⟨B i, O i + k, none⟩ = some (.int .i64 (ent t i k))) ∧ n ≤ C i := by
 obtain ⟨b, off, ha, hb, hc⟩ := h.atC hl
 have each : ∀ i, ∃ q : Nat × Nat × Nat, i < t.length → w.cell? ⟨b, off + i, none⟩ = some (.slice (some ⟨q.1, q.2.1, none⟩) n q.2.2) ∧ Ints w (some ⟨q.1, q.2.1, none⟩) (row t i) ∧ (∀ k, k < n → w.cell? ⟨q.1, q.2.1 + k, none⟩ = some (.int .i64 (ent t i k))) ∧ n ≤ q.2.2 := by
  intro i
  by_cases hi : i < t.length
  ·obtain ⟨ai, ci, h1, h2, h4⟩ := hc i hi
   obtain ⟨bi, oi, rfl, _, h3⟩ := h2.at (by rw [hn i hi]; exact h0)
   exact ⟨(bi, oi, ci), fun _ => ⟨by rw [h1, hn i hi], h2, fun k hk => h3 k (by rw [hn i hi]; exact hk), by rw [← hn i hi]; exact h4⟩⟩
  ·exact ⟨(0, 0, 0), fun h => absurd h hi⟩
 obtain ⟨q, hq⟩ := Classical.axiomOfChoice each
 exact ⟨b, off, fun i => (q i).1, fun i => (q i).2.1, fun i => (q i).2.2, ha, hb, hq⟩
theorem Tab.full {w : World} {a : Option Addr} {t : List (List Int)} (h : Tab w a t) (hl : 0 < t.length) {n : Nat} (hn : ∀ i, i < t.length → (row t i).length = n) (h0 : 0 < n) :
 ∃ b off, ∃ B O C : Nat → Nat, a = some ⟨b, off, none⟩ ∧ b < w.heap.size ∧ ∀ i, i < t.length → w.cell? ⟨b, off + i, none⟩ = some (.slice (some ⟨B i, O i, none⟩) n (C i)) ∧ Ints w (some ⟨B i, O i, none⟩) (row t i) ∧ ∀ k, k < n → w.cell? ⟨B i, O i + k, none⟩ = some (.int .i64 (ent t i k)) := by
 obtain ⟨b, off, B, O, C, h1, h2, h3⟩ := h.fullC hl hn h0
 exact ⟨b, off, B, O, C, h1, h2, fun i hi => ⟨(h3 i hi).1, (h3 i hi).2.1, (h3 i hi).2.2.1⟩⟩
def OwnV (w : World) (base : Nat) (e : TypeId) (v : Value) (vs : List Value) : Prop := w.ownsRow base e 1 v vs.length vs
theorem OwnV.ext {w w' : World} {base : Nat} {e : TypeId} {v : Value} {vs : List Value} (h : OwnV w base e v vs) (k : Ext w w') : OwnV w' base e v vs :=
 World.ownsRow.kept (row := none) h ⟨Below.os k, Below.tape k, Below.output k, Below.size k, fun i hi _ => Below.block k i hi⟩ (by cases v.ownBlock <;> simp)
theorem OwnV.block {w : World} {base : Nat} {e : TypeId} {v : Value} {vs : List Value} (h : OwnV w base e v vs) : ∀ k, v.ownBlock = some k → base ≤ k ∧ k < w.heap.size := World.ownsRow.lt h
theorem OwnV.cells {w : World} {base : Nat} {e : TypeId} {v : Value} {vs : List Value} (h : OwnV w base e v vs) : (v = .slice none 0 0 ∧ vs = []) ∨ ∃ g cap, v = .slice (some ⟨g, 0, none⟩) vs.length cap ∧ base ≤ g ∧ g < w.heap.size ∧ vs.length ≤ cap ∧ ∀ i u, vs[i]? = some u → w.cell? ⟨g, i, none⟩ = some u ∧ w.frozen? ⟨g, i, none⟩ = false := by
 rcases h with ⟨h1, ⟨rfl, h2⟩ | ⟨g, cap, cur, rfl, hb, hg, hn, hm, hs, ht⟩⟩
 ·exact .inl ⟨rfl, List.eq_nil_of_length_eq_zero h2⟩
 ·exact .inr ⟨g, cap, rfl, hb, lt_of_heap hg, hn, fun i u hu => ⟨row_cell hg ht hu, by simp [World.frozen?, hg]⟩⟩
theorem OwnV.mono {w : World} {base base' : Nat} {e : TypeId} {v : Value} {vs : List Value} (h : OwnV w base e v vs) (hb : base' ≤ base) : OwnV w base' e v vs := by
 obtain ⟨h1, h2 | ⟨g, cap', cur, hv, hg, r⟩⟩ := h
 ·exact ⟨h1, .inl h2⟩
 ·exact ⟨h1, .inr ⟨g, cap', cur, hv, by omega, r⟩⟩
theorem OwnV.put {w : World} {base : Nat} {e : TypeId} {v : Value} {vs : List Value} (h : OwnV w base e v vs) {p : Addr} (hne : v.ownBlock ≠ some p.block) (u : Value) : OwnV (w.setCell p u) base e v vs := by
 obtain ⟨h1, h2 | ⟨g, cap', cur, hv, hb, hg, r⟩⟩ := h
 ·exact ⟨h1, .inl h2⟩
 ·subst hv
  exact ⟨h1, .inr ⟨g, cap', cur, rfl, hb, (Below.heap_setCell w p u g (fun e => hne (by rw [← e]; rfl))).trans hg, r⟩⟩
theorem OwnV.grown {w w' : World} {base : Nat} {e : TypeId} {v : Value} {vs : List Value} {rw_ : Option Nat} (h : OwnV w base e v vs) (hg : w.grownBy w' rw_) (hne : ∀ g, v.ownBlock = some g → rw_ ≠ some g) : OwnV w' base e v vs := by
 refine World.ownsRow.kept h hg ?_
 cases hub : v.ownBlock with
 | none => exact .inl rfl
 | some g => exact .inr fun h => hne g hub h.symm
theorem Ints.grownBy {w w' : World} {g : Option Nat} {b off : Nat} {l : List Int} (h : Ints w (some ⟨b, off, none⟩) l) (hg : w.grownBy w' g) (hne : g ≠ some b) : Ints w' (some ⟨b, off, none⟩) l := by
 intro i hi
 obtain ⟨b', off', e, hc⟩ := h i hi
 cases e
 exact ⟨b, off, rfl, hg.cell hc (fun e => hne e.symm)⟩
theorem OwnI.cap {w : World} {base : Nat} {e : TypeId} {a : Option Addr} {n cap : Nat} {l : List Int} (h : OwnI w base e (.slice a n cap) l) : n = l.length ∧ n ≤ cap := by
 rcases h.2 with ⟨e1, e2⟩ | ⟨g, cap', cur, e1, _, _, hn, _⟩
 ·cases e1; exact ⟨e2.symm, Nat.le_refl _⟩
 ·simp only [Value.slice.injEq] at e1
  rw [e1.2.1, e1.2.2]; exact ⟨rfl, hn⟩
def Sls (w : World) (vs : List Value) (t : List (List Int)) : Prop :=
 vs.length = t.length ∧ ∀ i, i < t.length → ∃ ai ci, vs[i]? = some (.slice ai (row t i).length ci) ∧ Ints w ai (row t i) ∧ (row t i).length ≤ ci
theorem Sls.ext {w w' : World} {vs : List Value} {t : List (List Int)} (h : Sls w vs t) (k : Ext w w') : Sls w' vs t :=
 ⟨h.1, fun i hi => let ⟨a, c, h1, h2, h3⟩ := h.2 i hi; ⟨a, c, h1, h2.ext k, h3⟩⟩
theorem Sls.nil (w : World) : Sls w [] [] := ⟨rfl, fun i hi => absurd hi (by simp)⟩
theorem Sls.snoc {w : World} {vs : List Value} {t : List (List Int)} (h : Sls w vs t) {a : Option Addr} {c : Nat} {r : List Int} (hr : Ints w a r) (hcap : r.length ≤ c) : Sls w (vs ++ [.slice a r.length c]) (t ++ [r]) := by
 refine ⟨by simp [h.1], fun i hi => ?_⟩
 rcases Nat.lt_or_ge i t.length with g | g
 ·obtain ⟨a', c', h1, h2, h3⟩ := h.2 i g
  refine ⟨a', c', ?_, ?_, ?_⟩
  ·rw [List.getElem?_append_left (by rw [h.1]; exact g), row_append_left g]; exact h1
  ·rw [row_append_left g]; exact h2
  ·rw [row_append_left g]; exact h3
 ·have e : i = t.length := by simp at hi; omega
  subst e
  refine ⟨a, c, ?_, ?_, ?_⟩
  ·rw [← h.1, List.getElem?_concat_length, h.1, row_append_right (Nat.le_refl _)]; simp [row]
  ·rw [row_append_right (Nat.le_refl _)]; simpa [row] using hr
  ·rw [row_append_right (Nat.le_refl _)]; simpa [row] using hcap
def Apt (lo : Nat) (v : Value) (vs : List Value) (t : List (List Int)) : Prop :=
 ∀ i b off n c, i < t.length → 0 < (row t i).length → vs[i]? = some (.slice (some ⟨b, off, none⟩) n c) → v.ownBlock ≠ some b ∧ lo ≤ b
def OwnT (w : World) (base lo : Nat) (e : TypeId) (v : Value) (t : List (List Int)) : Prop := ∃ vs, OwnV w base e v vs ∧ Sls w vs t ∧ Apt lo v vs t
theorem OwnT.nil (w : World) (base lo : Nat) (e : TypeId) : OwnT w base lo e (.slice none 0 0) [] := ⟨[], World.ownsRow_nil w base e 1, Sls.nil w, fun i _ _ _ _ hi => absurd hi (by simp)⟩
theorem OwnT.ext {w w' : World} {base lo : Nat} {e : TypeId} {v : Value} {t : List (List Int)} (h : OwnT w base lo e v t) (k : Ext w w') : OwnT w' base lo e v t :=
 let ⟨vs, h1, h2, h3⟩ := h; ⟨vs, h1.ext k, h2.ext k, h3⟩
theorem OwnT.block {w : World} {base lo : Nat} {e : TypeId} {v : Value} {t : List (List Int)} (h : OwnT w base lo e v t) : ∀ k, v.ownBlock = some k → base ≤ k ∧ k < w.heap.size := h.choose_spec.1.block
theorem OwnT.mono {w : World} {base base' lo : Nat} {e : TypeId} {v : Value} {t : List (List Int)} (h : OwnT w base lo e v t) (hb : base' ≤ base) : OwnT w base' lo e v t :=
 let ⟨vs, h1, h2, h3⟩ := h; ⟨vs, h1.mono hb, h2, h3⟩
theorem OwnT.slice {w : World} {base lo : Nat} {e : TypeId} {v : Value} {t : List (List Int)} (h : OwnT w base lo e v t) : ∃ a cap, v = .slice a t.length cap ∧ Tab w a t := by
 obtain ⟨vs, h1, h2, _⟩ := h
 rcases h1.cells with ⟨rfl, rfl⟩ | ⟨g, cap, rfl, _, _, _, hc⟩
 ·obtain rfl : t = [] := List.eq_nil_of_length_eq_zero h2.1.symm
  exact ⟨none, 0, rfl, Tab.nil _ _⟩
 ·refine ⟨_, cap, by rw [h2.1], fun i hi => ?_⟩
  obtain ⟨ai, ci, h3, h4, h5⟩ := h2.2 i hi
  exact ⟨g, 0, ai, ci, rfl, by rw [Nat.zero_add]; exact (hc i _ h3).1, h4, h5⟩
theorem Sls.grown {w w' : World} {vs : List Value} {t : List (List Int)} {g : Option Nat} (h : Sls w vs t) (hg : w.grownBy w' g)
 (hne : ∀ i b off n c, i < t.length → 0 < (row t i).length → vs[i]? = some (.slice (some ⟨b, off, none⟩) n c) → g ≠ some b) : Sls w' vs t := by
 refine ⟨h.1, fun i hi => ?_⟩
 obtain ⟨ai, ci, h1, h2, h9⟩ := h.2 i hi
 refine ⟨ai, ci, h1, ?_, h9⟩
 rcases Nat.eq_zero_or_pos (row t i).length with h0 | h0
 ·rw [List.eq_nil_of_length_eq_zero h0]; exact Ints.nil _ _
 ·obtain ⟨b, off, rfl, _, _⟩ := h2.at h0
  exact h2.grownBy hg (hne i b off _ _ hi h0 h1)
theorem OwnT.put {w : World} {base lo : Nat} {e : TypeId} {v : Value} {t : List (List Int)} (h : OwnT w base lo e v t) {p : Addr} (hb : p.block < base) (hl : p.block < lo) (u : Value) : OwnT (w.setCell p u) base lo e v t := by
 obtain ⟨vs, h1, h2, h3⟩ := h
 refine ⟨vs, h1.put (fun e => by have := (h1.block _ e).1; omega) u, ⟨h2.1, fun i hi => ?_⟩, h3⟩
 obtain ⟨ai, ci, h4, h5, h9⟩ := h2.2 i hi
 refine ⟨ai, ci, h4, ?_, h9⟩
 rcases Nat.eq_zero_or_pos (row t i).length with h0 | h0
 ·rw [List.eq_nil_of_length_eq_zero h0]; exact Ints.nil _ _
 ·obtain ⟨b, off, rfl, _, _⟩ := h5.at h0
  exact h5.put (fun e => by have := (h3 i b off _ _ hi h0 h4).2; omega) u
open Game
theorem nth_ge {l : List Int} {i : Nat} (h : l.length ≤ i) : nth l i = 0 := by simp [nth, h]
def inR (lo hi n : Int) : Bool := decide (lo ≤ n ∧ n ≤ hi)
def allIn (lo hi : Int) (l : List Int) : Bool := l.all (inR lo hi)
theorem inR_iff {lo hi n : Int} : inR lo hi n = true ↔ lo ≤ n ∧ n ≤ hi := by simp [inR]
theorem allIn_iff {lo hi : Int} {l : List Int} : allIn lo hi l = true ↔ ∀ i, i < l.length → inR lo hi (nth l i) = true := by
 unfold allIn
 rw [List.all_eq_true]
 constructor
 ·intro h i hi
  rw [nth_lt hi]; exact h _ (List.getElem_mem hi)
 ·intro h x hx
  obtain ⟨i, hi, rfl⟩ := List.getElem_of_mem hx
  have := h i hi
  rwa [nth_lt hi] at this
theorem allIn_no {lo hi : Int} {l : List Int} {i : Nat} (hi' : i < l.length) (h : inR lo hi (nth l i) = false) : allIn lo hi l = false := by
 cases g : allIn lo hi l with
 | false => rfl
 | true => rw [allIn_iff.1 g i hi'] at h; cases h
theorem allIn_one (lo hi x : Int) : allIn lo hi [x] = inR lo hi x := by simp [allIn]
def psum (p : List Int) : Int := sm p.length (nth p)
theorem psum_nn {p : List Int} (h : ∀ i, 0 ≤ nth p i) : 0 ≤ psum p := sm_nonneg fun i _ => h i
theorem psum_zero {p : List Int} (h : ∀ i, 0 ≤ nth p i) : psum p = 0 ↔ allIn 0 0 p = true := by
 constructor
 ·intro e
  refine allIn_iff.2 fun i hi => inR_iff.2 ⟨h i, ?_⟩
  have := sm_one (n := p.length) (f := nth p) (fun i _ => h i) hi
  unfold psum at e; omega
 ·intro e
  refine sm_zero fun i hi => ?_
  have := inR_iff.1 (allIn_iff.1 e i hi)
  omega
def mnTo (f : Nat → Int) : Nat → Int
 | 0 => f 0
 | k + 1 => min (mnTo f k) (f k)
theorem mnTo_le {f : Nat → Int} {n i : Nat} (h : i < n) : mnTo f n ≤ f i := by
 induction n with
 | zero => omega
 | succ k ih =>
  simp only [mnTo]
  rcases Nat.lt_or_ge i k with g | g
  ·have := ih g; omega
  ·obtain rfl : i = k := by omega
   omega
theorem mnTo_congr {f g : Nat → Int} {n : Nat} (h0 : 0 < n) (h : ∀ i, i < n → f i = g i) : mnTo f n = mnTo g n := by
 induction n with
 | zero => omega
 | succ k ih =>
  simp only [mnTo]
  rcases Nat.eq_zero_or_pos k with rfl | hk
  ·simp [mnTo, h 0 (by omega)]
  ·rw [ih hk fun i hi => h i (by omega), h k (by omega)]
def mxTo (f : Nat → Int) : Nat → Int
 | 0 => f 0
 | k + 1 => max (mxTo f k) (f k)
def ratN (a b : Int) : Int := a / (Int.gcd a b : Int)
def ratD (a b : Int) : Int := b / (Int.gcd a b : Int)
theorem gcd_pos {a b : Int} (h : 0 < b) : 0 < (Int.gcd a b : Int) := by
 have : 0 < Int.gcd a b := Int.gcd_pos_of_ne_zero_right a (by omega)
 omega
theorem rat_spec (a : Int) {b : Int} (h : 0 < b) : a = ratN a b * (Int.gcd a b : Int) ∧ b = ratD a b * (Int.gcd a b : Int) ∧ 0 < ratD a b := by
 have h1 : a = ratN a b * (Int.gcd a b : Int) := (Int.ediv_mul_cancel (Int.gcd_dvd_left ..)).symm
 have h2 : b = ratD a b * (Int.gcd a b : Int) := (Int.ediv_mul_cancel (Int.gcd_dvd_right ..)).symm
 refine ⟨h1, h2, ?_⟩
 have hg := gcd_pos (a := a) h
 refine Int.lt_of_not_ge fun hle => ?_
 have := Int.mul_nonpos_of_nonpos_of_nonneg hle (Int.le_of_lt hg)
 omega
theorem rat_cross {a b : Int} (h : 0 < b) (c d : Int) : ratN a b * d = c * ratD a b ↔ a * d = c * b := by
 obtain ⟨h1, h2, h3⟩ := rat_spec a h
 have hg := gcd_pos (a := a) h
 generalize ratN a b = x at *
 generalize ratD a b = y at *
 generalize (Int.gcd a b : Int) = g at *
 subst h1
 subst h2
 constructor
 ·intro e
  rw [Int.mul_right_comm, e, Int.mul_assoc]
 ·intro e
  have : g * (x * d) = g * (c * y) := by grind
  exact Int.eq_of_mul_eq_mul_left (by omega) this
theorem dvd_cop {a b c : Int} (h : a ∣ b * c) (hg : Int.gcd a b = 1) : a ∣ c := by
 have h1 := Int.natAbs_dvd_natAbs.2 h
 rw [Int.natAbs_mul] at h1
 have h2 : Nat.Coprime a.natAbs b.natAbs := hg
 exact Int.natAbs_dvd_natAbs.1 (h2.dvd_of_dvd_mul_left h1)
theorem rat_eq {a b c d : Int} (hb : 0 < b) (hd : 0 < d) (h : a * d = c * b) : ratN a b = ratN c d ∧ ratD a b = ratD c d := by
 obtain ⟨h1, h2, h3⟩ := rat_spec a hb
 obtain ⟨k1, k2, k3⟩ := rat_spec c hd
 have e : ratN a b * ratD c d = ratN c d * ratD a b := by
  have h5 := (rat_cross hb c d).2 h
  have h6 := (rat_cross hd (ratN a b) (ratD a b)).2 (by rw [h5])
  exact h6.symm
 -- both are coprime
 have cop : ∀ {a b : Int}, 0 < b → Int.gcd (ratN a b) (ratD a b) = 1 := fun {a b} hb => by
  have hg : 0 < Int.gcd a b := Int.gcd_pos_of_ne_zero_right a (by omega)
  unfold ratN ratD
  exact Int.gcd_ediv_gcd_ediv_gcd hg
 have c1 := cop (a := a) hb
 have c2 := cop (a := c) hd
 have d1 : ratD a b ∣ ratD c d := by
  have : ratD a b ∣ ratN a b * ratD c d := by rw [e]; exact Int.dvd_mul_left ..
  exact dvd_cop this (by rw [Int.gcd_comm]; exact c1)
 have d2 : ratD c d ∣ ratD a b := by
  have : ratD c d ∣ ratN c d * ratD a b := by rw [← e]; exact Int.dvd_mul_left ..
  exact dvd_cop this (by rw [Int.gcd_comm]; exact c2)
 have e2 : ratD a b = ratD c d := Int.dvd_antisymm (by omega) (by omega) d1 d2
 refine ⟨?_, e2⟩
 rw [e2] at e
 exact Int.eq_of_mul_eq_mul_right (by omega) e
theorem rat_le {a b : Int} (hb : 0 < b) : ratD a b ≤ b := by
 obtain ⟨h1, h2, h3⟩ := rat_spec a hb
 have hg := gcd_pos (a := a) hb
 have := Int.mul_le_mul_of_nonneg_left (show (1 : Int) ≤ (Int.gcd a b : Int) by omega) (Int.le_of_lt h3)
 omega
open Go Go.RowKit Game
structure Met where
 p : Int
 ll : Int
 lh : Int
 cl : Int
 ch : Int
def mtl (l : List Met) (i : Nat) : Met := l.getD i ⟨0, 0, 0, 0, 0⟩
def isR (lo hi : Int) : Bool := decide (0 ≤ lo) && decide (lo ≤ hi) && decide (hi ≤ 1000)
def badM (m : Met) : Bool := !(decide (0 ≤ m.p) && decide (m.p ≤ 1000) && isR m.ll m.lh && isR m.cl m.ch)
def chkM (l : List Met) : Int := if inR 1 6 (l.length : Int) = false then 6 else if l.any badM then 3 else 0
def chkU (lead copper : Int) : Int := if inR 0 1000 lead && inR 0 1000 copper then 0 else 3
structure VldM (l : List Met) : Prop where
 n1 : 1 ≤ l.length
 n6 : l.length ≤ 6
 pr : ∀ i, 0 ≤ (mtl l i).p ∧ (mtl l i).p ≤ 1000
 le : ∀ i, 0 ≤ (mtl l i).ll ∧ (mtl l i).ll ≤ (mtl l i).lh ∧ (mtl l i).lh ≤ 1000
 co : ∀ i, 0 ≤ (mtl l i).cl ∧ (mtl l i).cl ≤ (mtl l i).ch ∧ (mtl l i).ch ≤ 1000
theorem badM_no {m : Met} : badM m = false ↔ (0 ≤ m.p ∧ m.p ≤ 1000) ∧ (0 ≤ m.ll ∧ m.ll ≤ m.lh ∧ m.lh ≤ 1000) ∧ (0 ≤ m.cl ∧ m.cl ≤ m.ch ∧ m.ch ≤ 1000) := by
 unfold badM isR
 simp only [Bool.not_eq_false', Bool.and_eq_true, decide_eq_true_eq]
 constructor
 ·rintro ⟨⟨⟨a, b⟩, ⟨c, d⟩, e⟩, ⟨f, g⟩, h⟩; exact ⟨⟨a, b⟩, ⟨c, d, e⟩, f, g, h⟩
 ·rintro ⟨⟨a, b⟩, ⟨c, d, e⟩, f, g, h⟩; exact ⟨⟨⟨a, b⟩, ⟨c, d⟩, e⟩, ⟨f, g⟩, h⟩
theorem mtl_lt {l : List Met} {i : Nat} (h : i < l.length) : mtl l i ∈ l := by
 unfold mtl
 rw [List.getD_eq_getElem?_getD, List.getElem?_eq_getElem h]
 exact List.getElem_mem h
theorem mtl_ge {l : List Met} {i : Nat} (h : l.length ≤ i) : mtl l i = ⟨0, 0, 0, 0, 0⟩ := by
 unfold mtl
 rw [List.getD_eq_getElem?_getD, List.getElem?_eq_none h]
 rfl
theorem any_bad {l : List Met} : l.any badM = false ↔ ∀ i, badM (mtl l i) = false := by
 rw [List.any_eq_false]
 constructor
 ·intro h i
  rcases Nat.lt_or_ge i l.length with g | g
  ·simpa using h _ (mtl_lt g)
  ·rw [mtl_ge g]; decide
 ·intro h m hm
  obtain ⟨i, hi, rfl⟩ := List.getElem_of_mem hm
  have := h i
  unfold mtl at this
  rw [List.getD_eq_getElem?_getD, List.getElem?_eq_getElem hi] at this
  simpa using this
theorem chkM_ok {l : List Met} : chkM l = 0 ↔ VldM l := by
 unfold chkM
 constructor
 ·intro h
  by_cases g : inR 1 6 (l.length : Int) = false
  ·rw [if_pos g] at h; cases h
  ·rw [if_neg g] at h
   by_cases g2 : l.any badM = true
   ·rw [if_pos g2] at h; cases h
   ·have hb := any_bad.1 (by simpa using g2)
    have g3 : inR 1 6 (l.length : Int) = true := by simpa using g
    simp [inR] at g3
    exact ⟨by omega, by omega, fun i => (badM_no.1 (hb i)).1, fun i => (badM_no.1 (hb i)).2.1, fun i => (badM_no.1 (hb i)).2.2⟩
 ·rintro ⟨a, b, c, d, e⟩
  rw [if_neg (by simp [inR]; omega), if_neg]
  rw [Bool.not_eq_true, any_bad]
  exact fun i => badM_no.2 ⟨c i, d i, e i⟩
def Mtc (w : World) (b o : Nat) (m : Met) : Prop :=
 w.cell? ⟨b, o, none⟩ = some (.int .i64 m.p) ∧ w.cell? ⟨b, o + 1, none⟩ = some (.int .i64 m.ll) ∧ w.cell? ⟨b, o + 2, none⟩ = some (.int .i64 m.lh) ∧ w.cell? ⟨b, o + 3, none⟩ = some (.int .i64 m.cl) ∧ w.cell? ⟨b, o + 4, none⟩ = some (.int .i64 m.ch)
def Mts (w : World) (a : Option Addr) (l : List Met) : Prop := ∀ i, i < l.length → ∃ b off, a = some ⟨b, off, none⟩ ∧ Mtc w b (off + i * 5) (mtl l i)
theorem Mtc.ext {w w' : World} {b o : Nat} {m : Met} (h : Mtc w b o m) (k : Ext w w') : Mtc w' b o m := ⟨k.cell h.1, k.cell h.2.1, k.cell h.2.2.1, k.cell h.2.2.2.1, k.cell h.2.2.2.2⟩
theorem Mts.ext {w w' : World} {a : Option Addr} {l : List Met} (h : Mts w a l) (k : Ext w w') : Mts w' a l :=
 fun i hi => let ⟨b, off, ha, h1⟩ := h i hi; ⟨b, off, ha, h1.ext k⟩
theorem Mts.at {w : World} {a : Option Addr} {l : List Met} (h : Mts w a l) (hl : 0 < l.length) :
 ∃ b off, a = some ⟨b, off, none⟩ ∧ b < w.heap.size ∧ ∀ i, i < l.length → Mtc w b (off + i * 5) (mtl l i) := by
 obtain ⟨b, off, ha, hc, _⟩ := h 0 hl
 refine ⟨b, off, ha, cell_lt hc, fun i hi => ?_⟩
 obtain ⟨b', off', ha', hc'⟩ := h i hi
 rw [ha] at ha'
 cases ha'
 exact hc'
def FitM (l : List Met) : Prop := ∀ i, I64 (mtl l i).p ∧ I64 (mtl l i).ll ∧ I64 (mtl l i).lh ∧ I64 (mtl l i).cl ∧ I64 (mtl l i).ch
theorem Sls.append {w : World} {vs us : List Value} {t rs : List (List Int)} (h : Sls w vs t) (k : Sls w us rs) : Sls w (vs ++ us) (t ++ rs) := by
 refine ⟨by simp [h.1, k.1], fun i hi => ?_⟩
 rcases Nat.lt_or_ge i t.length with g | g
 ·rw [List.getElem?_append_left (by rw [h.1]; exact g), row_append_left g]; exact h.2 i g
 ·rw [List.getElem?_append_right (by rw [h.1]; exact g), row_append_right g, h.1]
  exact k.2 _ (by rw [List.length_append] at hi; omega)
theorem OwnI.apart {w : World} {base : Nat} {e : TypeId} {a : Option Addr} {n cap : Nat} {l : List Int} (h : OwnI w base e (.slice a n cap) l) : ∀ b off, 0 < l.length → a = some ⟨b, off, none⟩ → base ≤ b := by
 intro b off h0 ha
 subst ha
 exact (h.block b rfl).1
theorem OwnI.ints {w : World} {base : Nat} {e : TypeId} {a : Option Addr} {n cap : Nat} {l : List Int} (h : OwnI w base e (.slice a n cap) l) : Ints w a l := by
 obtain ⟨a', c', e', hi⟩ := h.slice
 simp only [Value.slice.injEq] at e'
 rw [e'.1]; exact hi
end Go.Proofs.Ytpnfhcnnodolbaa
