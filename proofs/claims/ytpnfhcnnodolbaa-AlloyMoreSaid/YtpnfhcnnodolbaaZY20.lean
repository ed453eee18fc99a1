/- Texts of one proof, laid together: Pg. -/
import Derived.Test.YtpnfhcnnodolbaaZY17
import Derived.Test.YtpnfhcnnodolbaaZY18
import Derived.Deep.DeepCutAuto
import Derived.Deep.CutBlock
set_option linter.unusedVariables false
set_option linter.unusedSimpArgs false
set_option linter.unusedSectionVars false
set_option linter.unnecessarySimpa false
set_option maxRecDepth 100000
namespace Go.Proofs.Ytpnfhcnnodolbaa
open Go Go.RowKit Game
def triP (ov : Nat → Nat → Int) (a b : Nat) : Int := ov a 1 * ov b 2 - ov a 2 * ov b 1
def cndN (t : List Nat) : Nat := if t.length = 2 then 2 else 1
def cndY (ov : Nat → Nat → Int) (t : List Nat) (j k : Nat) : Int :=
 if t.length = 1 then 1 else if t.length = 2 then (if k = 0 then ov (t.getD 1 0) (j + 1) else - ov (t.getD 0 0) (j + 1))
 else triP ov (t.getD ((k + 1) % 3) 0) (t.getD ((k + 2) % 3) 0)
def nrmY (m : Nat) (f : Nat → Int) : Nat → Int := if mxTo f m ≤ 0 then (fun k => - f k) else f
def keepY (m : Nat) (f : Nat → Int) : Bool := !(decide (mnTo (nrmY m f) m < 0) || decide (mxTo (nrmY m f) m = 0))
def kptL (m : Nat) (Y : Nat → Nat → Int) (i : Nat) : List Nat := (List.range i).filter fun j => keepY m (Y j)
def ptL (ov : Nat → Nat → Int) (t : List Nat) : List (List Int) := (kptL t.length (cndY ov t) (cndN t)).map fun j => mkL t.length (nrmY t.length (cndY ov t j))
theorem kptL_step (m : Nat) (Y : Nat → Nat → Int) (i : Nat) : kptL m Y (i + 1) = if keepY m (Y i) = true then kptL m Y i ++ [i] else kptL m Y i := by
 unfold kptL
 rw [List.range_succ, List.filter_append]
 by_cases h : keepY m (Y i) = true
 ·rw [if_pos h]; simp [h]
 ·rw [if_neg h]; simp [h]
theorem kptL_lt (m : Nat) (Y : Nat → Nat → Int) (i : Nat) : ∀ j ∈ kptL m Y i, j < i := fun j h => List.mem_range.1 (List.mem_filter.1 h).1
theorem kptL_le (m : Nat) (Y : Nat → Nat → Int) (i : Nat) : (kptL m Y i).length ≤ i := by
 have := List.length_filter_le (fun j => keepY m (Y j)) (List.range i)
 rw [List.length_range] at this
 exact this
theorem cndY_bd {ov : Nat → Nat → Int} (h : ∀ i k, -1000 ≤ ov i k ∧ ov i k ≤ 1000) (t : List Nat) (j k : Nat) : -2000000 ≤ cndY ov t j k ∧ cndY ov t j k ≤ 2000000 := by
 unfold cndY
 split
 ·omega
 ·split
  ·split
   ·have := h (t.getD 1 0) (j + 1); omega
   ·have := h (t.getD 0 0) (j + 1); omega
  ·unfold triP
   have h1 := mul_bd3 (h (t.getD ((k + 1) % 3) 0) 1) (h (t.getD ((k + 2) % 3) 0) 2)
   have h2 := mul_bd3 (h (t.getD ((k + 1) % 3) 0) 2) (h (t.getD ((k + 2) % 3) 0) 1)
   omega
theorem ovr_bd {l : List Met} (v : VldM l) {u c : Int} (hu : 0 ≤ u ∧ u ≤ 1000) (hc : 0 ≤ c ∧ c ≤ 1000) (s : Bool) (i k : Nat) : -1000 ≤ ovr l u c s i k ∧ ovr l u c s i k ≤ 1000 := by
 have h1 := badL_bd v s i
 have h2 := goodC_bd v s i
 unfold ovr; split <;> omega
theorem nrmY_bd {m : Nat} {f : Nat → Int} {B : Int} (h : ∀ k, -B ≤ f k ∧ f k ≤ B) (k : Nat) : -B ≤ nrmY m f k ∧ nrmY m f k ≤ B := by
 have := h k
 unfold nrmY; split
 ·dsimp only; omega
 ·exact this
theorem elemSl : ElemG Try.prog 25 1 24 := elemG_mk (by kernel_rfl)
structure Cnd (w W : World) (all : Value) (n m : Nat) (B C : Nat → Nat) (Y : Nat → Nat → Int) : Prop where
 h : ∃ g cap, all = .slice (some ⟨g, 0, none⟩) n cap ∧ w.heap.size ≤ g ∧ g < W.heap.size ∧ (∀ j, j < n → W.cell? ⟨g, j, none⟩ = some (.slice (some ⟨B j, 0, none⟩) m (C j))) ∧ ∀ j, j < n → B j ≠ g
 r : ∀ j k, j < n → k < m → W.cell? ⟨B j, k, none⟩ = some (.int .i64 (Y j k)) ∧ W.frozen? ⟨B j, k, none⟩ = false
 d : ∀ i j, i < n → j < n → i ≠ j → B i ≠ B j
 lo : ∀ j, j < n → w.heap.size ≤ B j ∧ B j < W.heap.size ∧ m ≤ C j
 x : Ext w W
theorem Cnd.ext {w W W' : World} {all : Value} {n m : Nat} {B C : Nat → Nat} {Y : Nat → Nat → Int} (h : Cnd w W all n m B C Y) (x : Ext W W') : Cnd w W' all n m B C Y := by
 obtain ⟨g, cap, h1, h2, h3, h4, h5⟩ := h.h
 refine ⟨⟨g, cap, h1, h2, Nat.lt_of_lt_of_le h3 x.size, fun j hj => x.cell (h4 j hj), h5⟩, fun j k hj hk => ?_, h.d, fun j hj => ?_, h.x.trans x⟩
 ·obtain ⟨q1, q2⟩ := h.r j k hj hk
  exact ⟨x.cell q1, (x.frozen (cell_lt q1)).trans q2⟩
 ·obtain ⟨q1, q2, q3⟩ := h.lo j hj
  exact ⟨q1, Nat.lt_of_lt_of_le q2 x.size, q3⟩
theorem Cnd.congr {w W : World} {all : Value} {n m : Nat} {B C : Nat → Nat} {Y Z : Nat → Nat → Int} (h : Cnd w W all n m B C Y) (e : ∀ j k, j < n → k < m → Y j k = Z j k) : Cnd w W all n m B C Z :=
 ⟨h.h, fun j k hj hk => by rw [← e j k hj hk]; exact h.r j k hj hk, h.d, h.lo, h.x⟩
theorem Cnd.set {w W : World} {all : Value} {n m : Nat} {B C : Nat → Nat} {Y : Nat → Nat → Int} (h : Cnd w W all n m B C Y) {i q : Nat} (hi : i < n) (hq : q < m) (y : Int) :
 Cnd w (W.setCell ⟨B i, q, none⟩ (.int .i64 y)) all n m B C (fun j k => if j = i ∧ k = q then y else Y j k) := by
 obtain ⟨g, cap, h1, h2, h3, h4, h5⟩ := h.h
 have lo := h.lo i hi
 refine ⟨⟨g, cap, h1, h2, by simpa using h3, fun j hj => ?_, h5⟩, fun j k hj hk => ?_, h.d, fun j hj => ?_, ?_⟩
 ·rw [World.cell?_setCell_far _ _ _ _ (h5 i hi)]; exact h4 j hj
 ·obtain ⟨q1, q2⟩ := h.r j k hj hk
  refine ⟨?_, by rw [World.frozen?_setCell]; exact q2⟩
  try dsimp only
  by_cases e : j = i
  ·subst e
   by_cases e2 : k = q
   ·subst e2; rw [if_pos ⟨rfl, rfl⟩]; exact cell_put_eq q1
   ·rw [if_neg (fun h => e2 h.2), World.cell?_setCell_other _ _ _ _ (by simp <;> omega)]; exact q1
  ·rw [if_neg (fun h => e h.1), World.cell?_setCell_far _ _ _ _ (h.d i j hi hj (Ne.symm e))]; exact q1
 ·obtain ⟨q1, q2, q3⟩ := h.lo j hj
  exact ⟨q1, by simpa using q2, q3⟩
 ·exact Ext.setCell h.x (by simpa using lo.1) _
def doneY (m : Nat) (Y : Nat → Nat → Int) (i : Nat) (j k : Nat) : Int := if j < i then nrmY m (Y j) k else Y j k
structure Gro (w W : World) (all : Value) (n m : Nat) (B C : Nat → Nat) (Y : Nat → Nat → Int) : Prop where
 o : OwnG W w.heap.size 25 1 all (fun j _ => .slice (some ⟨B j, 0, none⟩) m (C j)) n
 r : ∀ j k, j < n → k < m → W.cell? ⟨B j, k, none⟩ = some (.int .i64 (Y j k)) ∧ W.frozen? ⟨B j, k, none⟩ = false
 d : ∀ i j, i < n → j < n → i ≠ j → B i ≠ B j
 a : ∀ j, j < n → all.ownBlock ≠ some (B j)
 lo : ∀ j, j < n → w.heap.size ≤ B j ∧ B j < W.heap.size ∧ m ≤ C j
 x : Ext w W
theorem Gro.ext {w W W' : World} {all : Value} {n m : Nat} {B C : Nat → Nat} {Y : Nat → Nat → Int} (h : Gro w W all n m B C Y) (x : Ext W W') : Gro w W' all n m B C Y := by
 refine ⟨h.o.ext x, fun j k hj hk => ?_, h.d, h.a, fun j hj => ?_, h.x.trans x⟩
 ·obtain ⟨q1, q2⟩ := h.r j k hj hk
  exact ⟨x.cell q1, (x.frozen (cell_lt q1)).trans q2⟩
 ·obtain ⟨q1, q2, q3⟩ := h.lo j hj
  exact ⟨q1, Nat.lt_of_lt_of_le q2 x.size, q3⟩
theorem Gro.cnd {w W : World} {all : Value} {n m : Nat} {B C : Nat → Nat} {Y : Nat → Nat → Int} (h : Gro w W all n m B C Y) (hn : 0 < n) : Cnd w W all n m B C Y := by
 obtain ⟨g, cap, rfl, h1, h2, h3⟩ := h.o.addr hn
 refine ⟨⟨g, cap, rfl, h1, h2, fun j hj => ?_, fun j hj e => h.a j hj (by rw [e]; rfl)⟩, h.r, h.d, h.lo, h.x⟩
 have := (h.o.facts hj (r := 0) (by omega)).1
 simpa using this
theorem Gro.snoc {w W W' : World} {all : Value} {n m : Nat} {B C : Nat → Nat} {Y : Nat → Nat → Int} (h : Gro w W all n m B C Y) (g : W.grownBy W' all.ownBlock) {b cap bq : Nat} (hb : all.ownBlock = some b ∨ b = W.heap.size)
 (hE : ∀ w0, Ext w0 W → w0.heap.size ≤ w.heap.size → Ext w0 W')
 (ho : OwnG W' w.heap.size 25 1 (.slice (some ⟨b, 0, none⟩) (n + 1) cap) (fun j _ => if j < n then .slice (some ⟨B j, 0, none⟩) m (C j) else .slice (some ⟨bq, 0, none⟩) m m) (n + 1))
 (hq : ∀ k, k < m → W.cell? ⟨bq, k, none⟩ = some (.int .i64 (Y n k)) ∧ W.frozen? ⟨bq, k, none⟩ = false) (q0 : w.heap.size ≤ bq) (q1 : bq < W.heap.size) (q2 : all.ownBlock ≠ some bq) (q3 : ∀ j, j < n → B j ≠ bq) :
 Gro w W' (.slice (some ⟨b, 0, none⟩) (n + 1) cap) (n + 1) m (fun j => if j < n then B j else bq) (fun j => if j < n then C j else m) Y := by
 have keep : ∀ p k v, p < W.heap.size → all.ownBlock ≠ some p → W.cell? ⟨p, k, none⟩ = some v ∧ W.frozen? ⟨p, k, none⟩ = false → W'.cell? ⟨p, k, none⟩ = some v ∧ W'.frozen? ⟨p, k, none⟩ = false := fun p k v hp hne hc =>
  ⟨g.cell hc.1 (fun e => hne e.symm), (grownBy_frozen g hp (fun e => hne e.symm)).trans hc.2⟩
 refine ⟨?_, fun j k hj hk => ?_, fun i j hi hj hne => ?_, fun j hj e => ?_, fun j hj => ?_, hE w h.x (Nat.le_refl _)⟩
 ·have e : (fun j (_ : Nat) => if j < n then (.slice (some ⟨B j, 0, none⟩) m (C j) : Value) else .slice (some ⟨bq, 0, none⟩) m m) = (fun j _ => .slice (some ⟨(if j < n then B j else bq), 0, none⟩) m (if j < n then C j else m)) := by
   funext j _
   by_cases h : j < n <;> simp [h]
  rw [← e]; exact ho
 ·try dsimp only
  by_cases e : j < n
  ·rw [if_pos e]
   exact keep _ _ _ (h.lo j e).2.1 (h.a j e) (h.r j k e hk)
  ·rw [if_neg e, show j = n by omega]
   exact keep _ _ _ q1 q2 (hq k hk)
 ·try dsimp only
  by_cases e : i < n
  ·by_cases e2 : j < n
   ·rw [if_pos e, if_pos e2]; exact h.d i j e e2 hne
   ·rw [if_pos e, if_neg e2]; exact q3 i e
  ·have e2 : j < n := by omega
   rw [if_neg e, if_pos e2]; exact Ne.symm (q3 j e2)
 ·have hbb : (Value.slice (some ⟨b, 0, none⟩) (n + 1) cap).ownBlock = some b := rfl
  rw [hbb] at e
  have e := Option.some.inj e
  try dsimp only at e
  rcases hb with h1 | h1
  ·by_cases g1 : j < n
   ·rw [if_pos g1] at e; exact h.a j g1 (by rw [h1, e])
   ·rw [if_neg g1] at e; exact q2 (by rw [h1, e])
  ·by_cases g1 : j < n
   ·rw [if_pos g1] at e; have := (h.lo j g1).2.1; omega
   ·rw [if_neg g1] at e; omega
 ·try dsimp only
  by_cases e : j < n
  ·obtain ⟨z1, z2, z3⟩ := h.lo j e
   rw [if_pos e, if_pos e]; exact ⟨z1, Nat.lt_of_lt_of_le z2 g.size, z3⟩
  ·rw [if_neg e, if_neg e]; exact ⟨q0, Nat.lt_of_lt_of_le q1 g.size, Nat.le_refl _⟩
theorem Cnd.ints {w W : World} {all : Value} {n m : Nat} {B C : Nat → Nat} {Y : Nat → Nat → Int} (h : Cnd w W all n m B C Y) {j : Nat} (hj : j < n) {f : Nat → Int} (e : ∀ k, k < m → Y j k = f k) : Ints W (some ⟨B j, 0, none⟩) (mkL m f) := by
 intro k hk
 rw [mkL_len] at hk
 refine ⟨B j, 0, rfl, ?_⟩
 rw [mkL_nth f hk, Nat.zero_add, ← e k hk]
 exact (h.r j k hj hk).1
theorem Cnd.kept {w W V W' : World} {g cap : Nat} {n m : Nat} {B C : Nat → Nat} {Y : Nat → Nat → Int} {row : Option Nat} (h : Cnd w W (.slice (some ⟨g, 0, none⟩) n cap) n m B C Y) (gr : V.grownBy W' row) (x : Ext W V) (hE : Ext w V → Ext w W') (hne : ∀ j, j < n → row ≠ some (B j)) (hng : row ≠ some g) :
 Cnd w W' (.slice (some ⟨g, 0, none⟩) n cap) n m B C Y := by
 have h' := h.ext x
 obtain ⟨g', cap', e, h2, h3, h4, h5⟩ := h'.h
 cases e
 refine ⟨⟨g, cap, rfl, h2, Nat.lt_of_lt_of_le h3 gr.size, fun j hj => gr.cell (h4 j hj) (fun e => hng e.symm), h5⟩, fun j k hj hk => ?_, h.d, fun j hj => ?_, hE h'.x⟩
 ·obtain ⟨q1, q2⟩ := h'.r j k hj hk
  exact ⟨gr.cell q1 (fun e => hne j hj e.symm), (grownBy_frozen gr (cell_lt q1) (fun e => hne j hj e.symm)).trans q2⟩
 ·obtain ⟨q1, q2, q3⟩ := h'.lo j hj
  exact ⟨q1, Nat.lt_of_lt_of_le q2 gr.size, q3⟩
theorem doneY_at (m : Nat) (Y : Nat → Nat → Int) (i k : Nat) : doneY m Y i i k = Y i k := by unfold doneY; rw [if_neg (by omega)]
theorem doneY_step (m : Nat) (Y : Nat → Nat → Int) (i j k : Nat) : doneY m Y (i + 1) j k = if j = i then nrmY m (Y i) k else doneY m Y i j k := by
 unfold doneY
 by_cases h : j = i
 ·subst h; rw [if_pos (by omega), if_pos rfl]
 ·rw [if_neg h]
  by_cases g : j < i
  ·rw [if_pos g, if_pos (by omega)]
  ·rw [if_neg g, if_neg (by omega)]
def TabB (w : World) (lo : Nat) (a : Option Addr) (t : List (List Int)) : Prop :=
 ∀ i, i < t.length → ∃ b off bi oi ci, a = some ⟨b, off, none⟩ ∧ lo ≤ b ∧ lo ≤ bi ∧ w.cell? ⟨b, off + i, none⟩ = some (.slice (some ⟨bi, oi, none⟩) (row t i).length ci) ∧ Ints w (some ⟨bi, oi, none⟩) (row t i)
def RetB (t : List (List Int)) (w : World) (e : Ending) (w' : World) : Prop := ∃ a cap, e = .returned (.slice a t.length cap) ∧ TabB w' w.heap.size a t ∧ Ext w w'
theorem tab_of {W : World} {base lo : Nat} {e : TypeId} {o : Value} {H : Nat → Value} {L : List Nat} {B C : Nat → Nat} {F : Nat → List Int} {m : Nat} (ho : OwnG W base e 1 o (fun r _ => H (L.getD r 0)) L.length) (hlo : lo ≤ base)
 (h : ∀ j ∈ L, H j = .slice (some ⟨B j, 0, none⟩) m (C j) ∧ Ints W (some ⟨B j, 0, none⟩) (F j) ∧ (F j).length = m ∧ lo ≤ B j) : ∃ a cap, o = .slice a (L.map F).length cap ∧ TabB W lo a (L.map F) := by
 have hbl := ho.block
 obtain ⟨a, cap, rfl, hc, he⟩ := ho.els
 refine ⟨a, cap, by simp, fun i hi => ?_⟩
 have hi2 : i < L.length := by simpa using hi
 obtain ⟨b, off, ha, hr⟩ := he i hi2
 have h0 := hr 0 (by omega)
 have hm : L.getD i 0 ∈ L := by simp [List.getD_eq_getElem?_getD, List.getElem?_eq_getElem hi2, List.getElem_mem]
 obtain ⟨h1, h2, h3, h4⟩ := h _ hm
 have hrow : row (L.map F) i = F (L.getD i 0) := by simp [row, List.getD_eq_getElem?_getD, List.getElem?_eq_getElem hi2]
 have hb := (hbl b (by rw [ha]; rfl)).1
 refine ⟨b, off, B (L.getD i 0), 0, C (L.getD i 0), ha, by omega, h4, ?_, by rw [hrow]; exact h2⟩
 rw [hrow, h3, ← h1]
 simpa using h0
end Go.Proofs.Ytpnfhcnnodolbaa
