/- A table that is being filled, row by row, each row and each number coming later, round. -/
import Derived.Test.YtommhgcgaclflaaZTurned32
import Derived.Test.YtommhgcgaclflaaMkK
import Derived.Deep.OwnRows
namespace Go.Proofs.Ytommhgcgaclflaa
set_option linter.unusedVariables false
set_option linter.unusedSimpArgs false
set_option linter.unusedSectionVars false
set_option linter.unnecessarySimpa false
open Go Go.RowKit Game

theorem made_nil (w : World) (e : TypeId) (z : Value) (n p : Nat) (h : p < n) : (w.alloc (.cells (madeCells #[z] n) e)).cell? ⟨w.heap.size, p, none⟩ = some z ∧ (w.alloc (.cells (madeCells #[z] n) e)).frozen? ⟨w.heap.size, p, none⟩ = false := by
 have hs : (madeCells #[z] n)[p]? = some z := by
  unfold madeCells
  simp [h, Nat.mod_one]
 refine ⟨?_, ?_⟩
 ·simp [go_sem, hs]
 ·simp [go_sem]
theorem make_nils {P : Program} {w : World} {ops : Array Oper} {rest : List Oper} {o : Oper} {a : Act} {Q : Exit → Act → World → Prop} (hgd : o.guard = none) (l c : Operand) (t : TypeId) (hop : o.op = Op.makeSlice t l c)
 (e : TypeId) (ht : P.underlying t = some (.slice e)) (he : ElemS P e) (n : Nat) (hl : a.eval l = .int .i64 (n : Int)) (hc : a.eval c = .int .i64 (n : Int)) (hn : n ≤ 1099511627776)
 (h : ∀ w', (∀ p, p < n → w'.cell? ⟨w.heap.size, p, none⟩ = some (.slice none 0 0) ∧ w'.frozen? ⟨w.heap.size, p, none⟩ = false) → Ext w w' → w.heap.size < w'.heap.size → wpList P ops Q rest (a.put o.dst (.slice (some ⟨w.heap.size, 0, none⟩) n n)) w') : wpList P ops Q (o :: rest) a w := by
 obtain ⟨i, hi, hz, hsz, hby⟩ := he
 refine wpList_make_row w hgd l c t hop e i (.slice none 0 0) ht hi hz hsz rfl .i64 .i64 n hl hc (by rw [hby]; omega) (by omega) ?_
 exact h _ (fun p hp => made_nil w e (.slice none 0 0) n p hp) (Ext.alloc (Ext.refl _) _) (by simp)
theorem mod_natT {x : Int} (h : 0 ≤ x) {m : Nat} (h0 : 0 < m) : ∃ j : Nat, x.tmod (m : Int) = (j : Int) ∧ j < m := by
 have h1 := Int.emod_nonneg x (b := (m : Int)) (by omega)
 have h2 := Int.emod_lt_of_pos x (b := (m : Int)) (by omega)
 refine ⟨(x % (m : Int)).toNat, ?_, by omega⟩
 rw [Int.tmod_eq_emod_of_nonneg h]; omega
theorem mod_sum (x c n : Nat) : ((x : Int) + (c : Int)).tmod (n : Int) = (((x + c) % n : Nat) : Int) := by
 rw [Int.tmod_eq_emod_of_nonneg (by omega), ← Int.natCast_add, ← Int.natCast_emod]
structure YN (W : World) (B0 G : Nat) (Bf : Nat → Nat) (t : List (List Int)) (c d k : Nat) : Prop where
 cc : ∀ p, p < t.length → W.cell? ⟨G, p, none⟩ = some (if (p + (t.length - c)) % t.length < k then .slice (some ⟨Bf p, 0, none⟩) (wid t) (wid t) else .slice none 0 0)
 ff : ∀ p, p < t.length → W.frozen? ⟨G, p, none⟩ = false
 ee : ∀ p, p < t.length → (p + (t.length - c)) % t.length < k → ∀ j, j < wid t → W.cell? ⟨Bf p, j, none⟩ = some (.int .i64 (ent (rotT t c d) p j))
 bb : ∀ p, p < t.length → (p + (t.length - c)) % t.length < k → Bf p ≠ G ∧ B0 ≤ Bf p
 gg : B0 ≤ G
theorem YN.ext {W W' : World} {B0 G : Nat} {Bf : Nat → Nat} {t : List (List Int)} {c d k : Nat} (h : YN W B0 G Bf t c d k) (x : Ext W W') : YN W' B0 G Bf t c d k :=
 ⟨fun p hp => x.cell (h.cc p hp), fun p hp => (x.frozen (cell_lt (h.cc p hp))).trans (h.ff p hp), fun p hp hk j hj => x.cell (h.ee p hp hk j hj), h.bb, h.gg⟩
theorem YN.far {W : World} {B0 G : Nat} {Bf : Nat → Nat} {t : List (List Int)} {c d k : Nat} (h : YN W B0 G Bf t c d k) {C : Nat} (hC : C < B0) (o : Nat) (v : Value) : YN (W.setCell ⟨C, o, none⟩ v) B0 G Bf t c d k := by
 have hg := h.gg
 refine ⟨fun p hp => ?_, fun p hp => ?_, fun p hp hk j hj => ?_, h.bb, h.gg⟩
 ·rw [World.cell?_setCell_far _ _ _ _ (show C ≠ G by omega)]; exact h.cc p hp
 ·rw [World.frozen?_setCell]; exact h.ff p hp
 ·have := (h.bb p hp hk).2
  rw [World.cell?_setCell_far _ _ _ _ (show C ≠ Bf p by omega)]; exact h.ee p hp hk j hj
theorem YN.step {W : World} {B0 G : Nat} {Bf : Nat → Nat} {t : List (List Int)} (v : VldT t) {c d k : Nat} (hc : c < t.length) (h : YN W B0 G Bf t c d k) (hk : k < t.length) {nb : Nat} (hn : nb ≠ G) (hb : B0 ≤ nb)
 (he : ∀ j, j < wid t → W.cell? ⟨nb, j, none⟩ = some (.int .i64 (ent (rotT t c d) ((k + c) % t.length) j))) :
 YN (W.setCell ⟨G, (k + c) % t.length, none⟩ (.slice (some ⟨nb, 0, none⟩) (wid t) (wid t))) B0 G (fun p => if p = (k + c) % t.length then nb else Bf p) t c d (k + 1) := by
 have hp0 : (k + c) % t.length < t.length := Nat.mod_lt _ (by omega)
 have hr := rot_back _ v.m4 c hc k hk
 refine ⟨fun p hp => ?_, fun p hp => ?_, fun p hp hk2 j hj => ?_, fun p hp hk2 => ?_, h.gg⟩
 ·by_cases e : p = (k + c) % t.length
  ·have e2 := (hr p hp).1 e.symm
   rw [if_pos (by omega)]
   try dsimp only
   rw [if_pos e, e]
   exact cell_put_eq (h.cc _ hp0)
  ·have e2 : k ≠ (p + (t.length - c)) % t.length := fun e3 => e ((hr p hp).2 e3).symm
   rw [World.cell?_setCell_other _ _ _ _ (show (⟨G, (k + c) % t.length, none⟩ : Addr) ≠ ⟨G, p, none⟩ from fun e3 => e (by cases e3; rfl)), h.cc p hp]
   try dsimp only
   rw [if_neg e]
   by_cases g : (p + (t.length - c)) % t.length < k
   ·rw [if_pos g, if_pos (by omega)]
   ·rw [if_neg g, if_neg (by omega)]
 ·rw [World.frozen?_setCell]; exact h.ff p hp
 ·try dsimp only
  by_cases e : p = (k + c) % t.length
  ·rw [if_pos e, World.cell?_setCell_far _ _ _ _ (Ne.symm hn), e]; exact he j hj
  ·have e2 : k ≠ (p + (t.length - c)) % t.length := fun e3 => e ((hr p hp).2 e3).symm
   have g : (p + (t.length - c)) % t.length < k := by omega
   rw [if_neg e, World.cell?_setCell_far _ _ _ _ (Ne.symm (h.bb p hp g).1)]
   exact h.ee p hp g j hj
 ·try dsimp only
  by_cases e : p = (k + c) % t.length
  ·rw [if_pos e]; exact ⟨hn, hb⟩
  ·have e2 : k ≠ (p + (t.length - c)) % t.length := fun e3 => e ((hr p hp).2 e3).symm
   rw [if_neg e]
   exact h.bb p hp (by omega)
theorem YN.tab {W : World} {B0 G : Nat} {Bf : Nat → Nat} {t : List (List Int)} (v : VldT t) {c d : Nat} (h : YN W B0 G Bf t c d t.length) : Tab W (some ⟨G, 0, none⟩) (rotT t c d) := by
 intro i hi
 rw [rotT_len] at hi
 have hl : (row (rotT t c d) i).length = wid t := by rw [(rotT_vld v c d).eq i (by rw [rotT_len]; exact hi), rotT_wid v]
 have hk : (i + (t.length - c)) % t.length < t.length := Nat.mod_lt _ (by omega)
 have hc := h.cc i hi
 rw [if_pos hk] at hc
 refine ⟨G, 0, some ⟨Bf i, 0, none⟩, wid t, rfl, by rw [Nat.zero_add, hl]; exact hc, fun j hj => ?_, by omega⟩
 rw [hl] at hj
 exact ⟨Bf i, 0, rfl, by rw [Nat.zero_add]; exact h.ee i hi hk j hj⟩
def prF (t : List (List Int)) (i d j p : Nat) : Int := if (p + (wid t - d)) % wid t < j then ent t i ((p + (wid t - d)) % wid t) else 0
theorem prF_zero (t : List (List Int)) (i d : Nat) : List.replicate (wid t) (0 : Int) = mkL (wid t) (prF t i d 0) := by
 rw [mkL_rep]; exact mkL_congr fun p _ => by unfold prF; rw [if_neg (by omega)]
theorem prF_step {t : List (List Int)} (v : VldT t) {i d j : Nat} (hd : d < wid t) (hj : j < wid t) : (mkL (wid t) (prF t i d j)).set ((j + d) % wid t) (ent t i j) = mkL (wid t) (prF t i d (j + 1)) := by
 rw [mkL_set]
 refine mkL_congr fun p hp => ?_
 have hr := rot_back _ v.n4 d hd j hj p hp
 unfold prF
 by_cases e : p = (j + d) % wid t
 ·have e2 := hr.1 e.symm
  rw [if_pos e, if_pos (by omega), ← e2]
 ·have e2 : j ≠ (p + (wid t - d)) % wid t := fun e3 => e (hr.2 e3).symm
  rw [if_neg e]
  by_cases g : (p + (wid t - d)) % wid t < j
  ·rw [if_pos g, if_pos (by omega)]
  ·rw [if_neg g, if_neg (by omega)]
theorem prF_end {t : List (List Int)} (v : VldT t) {c d k j : Nat} (hc : c < t.length) (hk : k < t.length) (hj : j < wid t) : nth (mkL (wid t) (prF t k d (wid t))) j = ent (rotT t c d) ((k + c) % t.length) j := by
 have hp0 : (k + c) % t.length < t.length := Nat.mod_lt _ (by omega)
 rw [mkL_nth _ hj, rotT_ent hp0 hj, ← (rot_back _ v.m4 c hc k hk _ hp0).1 rfl]
 unfold prF
 rw [if_pos (Nat.mod_lt _ (by omega))]

end Go.Proofs.Ytommhgcgaclflaa
