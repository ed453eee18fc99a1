/- Texts of one proof, laid together: Leq, Sha, She, LaH. -/
import Derived.Test.YtpnfhcnnodolbaaZSharesA37
import Derived.Test.YtpnfhcnnodolbaaZY26
import Derived.Test.YtpnfhcnnodolbaaZY10
import Derived.Test.YtpnfhcnnodolbaaZY7
import Derived.Test.YtpnfhcnnodolbaaZY2
import Derived.Test.YtpnfhcnnodolbaaZY25
import Derived.Test.YtpnfhcnnodolbaaZY11
import Derived.Test.YtpnfhcnnodolbaaZY4
import Derived.Test.YtpnfhcnnodolbaaZY18
import Derived.Test.YtpnfhcnnodolbaaZY17
import Derived.Test.YtpnfhcnnodolbaaZY16
import Derived.Test.YtpnfhcnnodolbaaZY8
import Derived.Test.YtpnfhcnnodolbaaZSharesA35
import Derived.Test.YtpnfhcnnodolbaaZY12
import Derived.Test.YtpnfhcnnodolbaaZSharesA36
import Derived.Test.YtpnfhcnnodolbaaZY22
import Derived.Test.YtpnfhcnnodolbaaZY20
import Derived.Test.YtpnfhcnnodolbaaZY21
import Derived.Test.YtpnfhcnnodolbaaZY9
import Derived.Test.YtpnfhcnnodolbaaZY5
import Derived.Test.YtpnfhcnnodolbaaZY13
import Derived.Test.YtpnfhcnnodolbaaZY3
import Derived.Test.YtpnfhcnnodolbaaZY19
import Derived.Test.YtpnfhcnnodolbaaZY1
import Derived.Test.YtpnfhcnnodolbaaZY30
import Derived.Test.YtpnfhcnnodolbaaZY28
import Derived.Test.YtpnfhcnnodolbaaZY23
import Derived.Test.YtpnfhcnnodolbaaZY14
import Derived.Test.YtpnfhcnnodolbaaZY27
import Derived.Test.YtpnfhcnnodolbaaZY6
import Derived.Test.YtpnfhcnnodolbaaZSharesA34
import Derived.Test.YtpnfhcnnodolbaaZSharesA38
import Derived.Test.YtpnfhcnnodolbaaZY32
import Derived.Test.YtpnfhcnnodolbaaZY31
import Derived.Test.YtpnfhcnnodolbaaZY29
import Derived.Test.YtpnfhcnnodolbaaZY33
set_option linter.unusedVariables false
set_option linter.unusedSimpArgs false
set_option linter.unusedSectionVars false
set_option linter.unnecessarySimpa false
set_option maxRecDepth 100000
namespace Go.Proofs.Ytpnfhcnnodolbaa
open Go Go.RowKit Game
theorem bstN_best {lt : Nat → Nat → Bool} {n : Nat} (irr : ∀ i, i < n → lt i i = false) (tr : ∀ i j k, i < n → j < n → k < n → lt i j = true → lt j k = true → lt i k = true) :
 ∀ k, k < n → ∀ j, j ≤ k → lt j (bstN lt k) = false
 | 0, h0, j, hj => by obtain rfl : j = 0 := by omega
                      exact irr 0 h0
 | k + 1, hk, j, hj => by
  have ih := bstN_best irr tr k (by omega)
  have hle := bstN_le lt k
  simp only [bstN]
  by_cases g : lt (k + 1) (bstN lt k) = true
  ·rw [if_pos g]
   by_cases e : j = k + 1
   ·subst e; exact irr _ hk
   ·rw [Bool.eq_false_iff]
    intro h
    have := tr j (k + 1) (bstN lt k) (by omega) hk (by omega) h g
    rw [ih j (by omega)] at this
    cases this
  ·rw [if_neg g]
   by_cases e : j = k + 1
   ·subst e; exact (Bool.eq_false_iff).2 g
   ·exact ih j (by omega)
theorem lt_trans3 {a b c p q r : Int} (hp : 0 < p) (hq : 0 < q) (hr : 0 < r) (h1 : a * q < b * p) (h2 : b * r < c * q) : a * r < c * p := by
 have e1 := Int.mul_lt_mul_of_pos_right h1 hr
 have e2 := Int.mul_lt_mul_of_pos_right h2 hp
 refine Int.lt_of_mul_lt_mul_right (a := q) ?_ (by omega)
 rw [show a * r * q = a * q * r by grind, show c * p * q = c * q * p by grind]
 rw [show b * p * r = b * r * p by grind] at e1
 exact Int.lt_trans e1 e2
theorem best_in {L : List (List Int)} (h0 : 0 < L.length) (lt : Nat → Nat → Bool) : row L (bstN lt (L.length - 1)) ∈ L := by
 have := bstN_le lt (L.length - 1)
 rw [row_lt (by omega)]
 exact List.getElem_mem _
theorem edges_zero {l : List Met} (v : VldM l) {u c : Int} (hu : 0 ≤ u ∧ u ≤ 1000) (hc : 0 ≤ c ∧ c ≤ 1000) (s : Bool) : (edP l u c s).length = 0 ↔ (edg l u c s).length = 0 := by
 constructor
 ·intro h
  have h1 := List.eq_nil_of_length_eq_zero h
  refine Classical.byContradiction fun g => ?_
  have := edg_sub v hu hc (s := s) (List.getElem_mem (show 0 < (edg l u c s).length by omega))
  rw [h1] at this; simp at this
 ·intro h
  have h1 := List.eq_nil_of_length_eq_zero h
  refine Classical.byContradiction fun g => ?_
  have := edP_sub v hu hc (s := s) (List.getElem_mem (show 0 < (edP l u c s).length by omega))
  rw [h1] at this; simp at this
theorem bstF {p q : Nat → Int} {lt : Nat → Nat → Bool} {n : Nat} (h : ∀ i j, i < n → j < n → lt i j = decide (p i * q j < p j * q i)) (hq : ∀ i, i < n → 0 < q i) (h0 : 0 < n) {j : Nat} (hj : j < n) :
 p (bstN lt (n - 1)) * q j ≤ p j * q (bstN lt (n - 1)) := by
 have hb := bstN_le lt (n - 1)
 have := bstN_best (lt := lt) (n := n)
  (fun i hi => by rw [h i i hi hi, decide_eq_false_iff_not]; omega)
  (fun a b d ha hb hd h1 h2 => by
   rw [h a b ha hb, decide_eq_true_eq] at h1
   rw [h b d hb hd, decide_eq_true_eq] at h2
   rw [h a d ha hd, decide_eq_true_eq]
   exact lt_trans3 (hq a ha) (hq b hb) (hq d hd) h1 h2) (n - 1) (by omega) j (by omega)
 rw [h j _ hj (by omega), decide_eq_false_iff_not] at this
 omega
theorem shLo_le {m : Nat} {L : List (List Int)} (hL : ∀ x ∈ L, 0 < psum x) {y : List Int} (hy : y ∈ L) : shLo m L ∈ L ∧ nth (shLo m L) m * psum y ≤ nth y m * psum (shLo m L) := by
 obtain ⟨j, hj, e⟩ := List.getElem_of_mem hy
 have ok : ∀ i, i < L.length → 0 < psum (row L i) := fun i hi => hL _ (by rw [row_lt hi]; exact List.getElem_mem hi)
 refine ⟨best_in (by omega) _, ?_⟩
 have := bstF (p := fun i => nth (row L i) m) (q := fun i => psum (row L i)) (lt := fun i j => lessB (shN m (row L i)) (shD m (row L i)) (shN m (row L j)) (shD m (row L j))) (n := L.length) (fun i j hi hj => rat_lt (ok i hi) (ok j hj)) ok (by omega) hj
 rw [← e, ← row_lt hj]
 exact this
theorem shHi_ge {m : Nat} {L : List (List Int)} (hL : ∀ x ∈ L, 0 < psum x) {y : List Int} (hy : y ∈ L) : shHi m L ∈ L ∧ nth y m * psum (shHi m L) ≤ nth (shHi m L) m * psum y := by
 obtain ⟨j, hj, e⟩ := List.getElem_of_mem hy
 have ok : ∀ i, i < L.length → 0 < psum (row L i) := fun i hi => hL _ (by rw [row_lt hi]; exact List.getElem_mem hi)
 refine ⟨best_in (by omega) _, ?_⟩
 have := bstF (p := fun i => - nth (row L i) m) (q := fun i => psum (row L i)) (lt := fun i j => lessB (shN m (row L j)) (shD m (row L j)) (shN m (row L i)) (shD m (row L i))) (n := L.length) (fun i j hi hj => by
  rw [show lessB (shN m (row L j)) (shD m (row L j)) (shN m (row L i)) (shD m (row L i)) = decide (nth (row L j) m * psum (row L i) < nth (row L i) m * psum (row L j)) from rat_lt (ok j hj) (ok i hi), Int.neg_mul, Int.neg_mul]
  exact decide_eq_decide.2 (by omega)) ok (by omega) hj
 rw [Int.neg_mul, Int.neg_mul] at this
 rw [← e, ← row_lt hj]
 unfold shHi
 omega
theorem edP_ps {l : List Met} {u c : Int} (hB : chkB l u c = 0) {s : Bool} : ∀ x ∈ edP l u c s, 0 < psum x := fun x hx => by
 obtain ⟨v, hu, hc⟩ := chkB_ok hB
 exact (edP_ok v hu hc hx).1.pos
theorem edg_ps {l : List Met} {u c : Int} (hB : chkB l u c = 0) {s : Bool} : ∀ x ∈ edg l u c s, 0 < psum x := fun x hx => by
 obtain ⟨v, hu, hc⟩ := chkB_ok hB
 exact (edg_ok v hu hc hx).1.pos
def one (m : Nat) (k : Int) (i : Nat) : Int := if i = m then k else 0
theorem she_eq (l : List Met) (u c : Int) (s : Bool) (m : Int) : shE l u c s m = srE l u c s m := by
 unfold shE srE
 by_cases g : ¬ chkB l u c = 0
 ·rw [if_pos g, if_pos g]
 ·rw [if_neg g, if_neg g]
  by_cases g2 : inR 0 ((l.length : Int) - 1) m = false
  ·rw [if_pos g2, if_pos g2]
  ·rw [if_neg g2, if_neg g2]
   obtain ⟨v, hu, hc⟩ := chkB_ok (Decidable.not_not.1 g)
   have := edges_zero v hu hc s
   by_cases h : (edP l u c s).length = 0
   ·rw [if_pos h, if_pos (this.1 h)]
   ·rw [if_neg h, if_neg (fun h' => h (this.2 h'))]
theorem shx_eq (l : List Met) (u c : Int) (s : Bool) (m : Int) : shX l u c s m = srX l u c s m := by
 have hE := she_eq l u c s m
 unfold shX srX
 rw [← hE]
 by_cases g : shE l u c s m = 0
 ·rw [if_pos g, if_pos g]
  have gB : chkB l u c = 0 := by
   refine Classical.byContradiction fun h => ?_
   unfold shE at g; rw [if_pos h] at g; exact h g
  obtain ⟨v, hu, hc⟩ := chkB_ok gB
  have h0 : 0 < (edP l u c s).length := by
   refine Classical.byContradiction fun h => ?_
   unfold shE at g; rw [if_neg (fun h' => h' gB)] at g
   split at g
   ·cases g
   ·rw [if_pos (by omega)] at g; cases g
  have hm0 := chp_mem h0
  have hm1 := edP_sub v hu hc hm0
  have i1 := (shLo_le (m := m.toNat) (edP_ps gB) hm0).1
  have i2 := (shHi_ge (m := m.toNat) (edP_ps gB) hm0).1
  have j1 := (shLo_le (m := m.toNat) (edg_ps gB) hm1).1
  have j2 := (shHi_ge (m := m.toNat) (edg_ps gB) hm1).1
  have a1 := (shLo_le (m := m.toNat) (edP_ps gB) (edg_sub v hu hc j1)).2
  have b1 := (shLo_le (m := m.toNat) (edg_ps gB) (edP_sub v hu hc i1)).2
  have a2 := (shHi_ge (m := m.toNat) (edP_ps gB) (edg_sub v hu hc j2)).2
  have b2 := (shHi_ge (m := m.toNat) (edg_ps gB) (edP_sub v hu hc i2)).2
  have e1 := rat_eq (edP_ps gB _ i1) (edg_ps gB _ j1) (a := nth (shLo m.toNat (edP l u c s)) m.toNat) (c := nth (shLo m.toNat (edg l u c s)) m.toNat) (by omega)
  have e2 := rat_eq (edP_ps gB _ i2) (edg_ps gB _ j2) (a := nth (shHi m.toNat (edP l u c s)) m.toNat) (c := nth (shHi m.toNat (edg l u c s)) m.toNat) (by omega)
  unfold shN shD
  rw [e1.1, e1.2, e2.1, e2.2]
 ·rw [if_neg g, if_neg g]
set_option maxHeartbeats 8000000 in
theorem alloyShares_any (l : List Met) (q : FitM l) (a : Option Addr) (cap : Nat) (u c : Int) (s : Bool) (m : Int) (w : World) (hM : Mts w a l) (hl : l.length ≤ 9223372036854775807) (iu : I64 u) (ic : I64 c) (im : I64 m) :
 Calls Try.prog 6 #[.slice a l.length cap, (.agg #[.int .i64 (u), .int .i64 (c)]), .bool s, .int .i64 m] w fun e w' => e = .returned (.bool true) ∧ Ext w w' := by
 have hg := hid (fun W => greatL_any a cap l.length none 0 0 hl (by decide) W)
 by_cases g : 12 < l.length
 ·rw [show (decide (12 < l.length) || decide (12 < 0)) = true by simp [g]] at hg
  replace g := hid g
  go_enter Try.func6, Try.ntmps6
  go_wp2_with fail
  refine (hg.out _).mono ?_; rintro e w1 ⟨rfl, hE⟩
  go_wp2_with fail
  refine (works_any _).mono ?_; rintro e w2 ⟨rfl, hE2⟩
  go_wp2_with fail
  go_ret
  exact ⟨rfl, exE⟩
 rw [show (decide (12 < l.length) || decide (12 < 0)) = false by simp [g]] at hg
 have hl2 : l.length ≤ 1000 := by omega
 have heq : ∀ (p q : Int) w, (Op.equalIn 10000 29 (.agg #[.int .i64 p, .int .i64 q]) (.agg #[.int .i64 p, .int .i64 q])).run Try.prog w = .ok true w := fun p q w => by rw [run_eqRatio]; simp
 have h1 := hid (fun W h => share_any l q hl2 a cap u c iu ic s m im W h)
 have h2 := hid (fun W h => by have := shareR_any l q hl2 a cap u c s m im W h; rw [← shx_eq l u c s m, ← she_eq l u c s m] at this; exact this)
 obtain ⟨N, hN⟩ : ∃ z, nth (shX l u c s m) 0 = z := ⟨_, rfl⟩
 obtain ⟨D, hD⟩ : ∃ z, nth (shX l u c s m) 1 = z := ⟨_, rfl⟩
 obtain ⟨P, hP⟩ : ∃ z, nth (shX l u c s m) 2 = z := ⟨_, rfl⟩
 obtain ⟨Q, hQ⟩ : ∃ z, nth (shX l u c s m) 3 = z := ⟨_, rfl⟩
 obtain ⟨E, hEe⟩ : ∃ z, shE l u c s m = z := ⟨_, rfl⟩
 rw [hN, hD, hP, hQ, hEe] at h1 h2
 clear hN hD hP hQ hEe q
 replace hM := hid hM
 replace g := hid g
 go_enter Try.func6, Try.ntmps6
 go_wp2_with fail
 refine (hg.out _).mono ?_; rintro e w1 ⟨rfl, hE⟩
 have X := hid (show Ext w w1 from exE)
 have t_0 := hid (hE.cell (p := ⟨w.heap.size, 0, none⟩) (v := .int .i64 u) (by simp [go_sem]))
 have t_1 := hid (hE.cell (p := ⟨w.heap.size, 1, none⟩) (v := .int .i64 c) (by simp [go_sem]))
 replace hM := hid (hM.out.ext X.out)
 obtain ⟨T, hT⟩ : ∃ T, w.heap.size = T := ⟨_, rfl⟩
 rw [hT] at t_0 t_1 ⊢
 clear hE hg hT
 have o0 := t_0.out
 have lo0 := cell_lt o0; dsimp only at lo0
 have o1 := t_1.out
 go_wp2_with fail
 refine name_c (fun v1 hv => ?_)
 have x1 : Ext w1 v1 := by rw [hv]; exact exE
 replace X := hid (X.out.trans x1); replace hM := hid (hM.out.ext x1); replace t_0 := hid (x1.cell t_0.out); replace t_1 := hid (x1.cell t_1.out)
 clear o0 lo0 o1
 clear hv x1
 refine (h1.out _ hM.out).mono ?_; rintro e u2 ⟨rfl, hE⟩
 replace X := hid (X.out.trans hE); replace hM := hid (hM.out.ext hE); replace t_0 := hid (hE.cell t_0.out); replace t_1 := hid (hE.cell t_1.out)
 clear hE
 have o0 := t_0.out
 have lo0 := cell_lt o0; dsimp only at lo0
 have o1 := t_1.out
 go_wp2_with fail
 refine name_c (fun v3 hv => ?_)
 have x1 : Ext u2 v3 := by rw [hv]; exact exE
 have b9_0 := hid (show v3.cell? ⟨u2.heap.size, 0, none⟩ = some (.int .i64 (N)) by rw [hv]; simp [go_sem])
 have b9_1 := hid (show v3.cell? ⟨u2.heap.size, 1, none⟩ = some (.int .i64 (D)) by rw [hv]; simp [go_sem])
 have b10_0 := hid (show v3.cell? ⟨u2.heap.size + 1, 0, none⟩ = some (.int .i64 (P)) by rw [hv]; simp [go_sem])
 have b10_1 := hid (show v3.cell? ⟨u2.heap.size + 1, 1, none⟩ = some (.int .i64 (Q)) by rw [hv]; simp [go_sem])
 replace X := hid (X.out.trans x1); replace hM := hid (hM.out.ext x1); replace t_0 := hid (x1.cell t_0.out); replace t_1 := hid (x1.cell t_1.out)
 clear o0 lo0 o1
 clear hv x1
 obtain ⟨Bb9, hBn⟩ : ∃ z, u2.heap.size = z := ⟨_, rfl⟩
 rw [hBn] at b9_0 b9_1 b10_0 b10_1 ⊢
 clear hBn
 refine (h2.out _ hM.out).mono ?_; rintro e u4 ⟨rfl, hE⟩
 replace X := hid (X.out.trans hE); replace hM := hid (hM.out.ext hE); replace t_0 := hid (hE.cell t_0.out); replace t_1 := hid (hE.cell t_1.out)
 replace b9_0 := hid (hE.cell b9_0.out); replace b9_1 := hid (hE.cell b9_1.out); replace b10_0 := hid (hE.cell b10_0.out); replace b10_1 := hid (hE.cell b10_1.out)
 clear hE
 go_upto_region 5 with (fail)
 refine name_wp (fun v5 hv => ?_)
 have x1 : Ext u4 v5 := by rw [hv]; exact exE
 have b12_0 := hid (show v5.cell? ⟨u4.heap.size, 0, none⟩ = some (.int .i64 (N)) by rw [hv]; simp [go_sem])
 have b12_1 := hid (show v5.cell? ⟨u4.heap.size, 1, none⟩ = some (.int .i64 (D)) by rw [hv]; simp [go_sem])
 have b13_0 := hid (show v5.cell? ⟨u4.heap.size + 1, 0, none⟩ = some (.int .i64 (P)) by rw [hv]; simp [go_sem])
 have b13_1 := hid (show v5.cell? ⟨u4.heap.size + 1, 1, none⟩ = some (.int .i64 (Q)) by rw [hv]; simp [go_sem])
 replace X := hid (X.out.trans x1); replace hM := hid (hM.out.ext x1); replace t_0 := hid (x1.cell t_0.out); replace t_1 := hid (x1.cell t_1.out)
 replace b9_0 := hid (x1.cell b9_0.out); replace b9_1 := hid (x1.cell b9_1.out); replace b10_0 := hid (x1.cell b10_0.out); replace b10_1 := hid (x1.cell b10_1.out)
 clear hv x1
 obtain ⟨Bb12, hBn⟩ : ∃ z, u4.heap.size = z := ⟨_, rfl⟩
 rw [hBn] at b12_0 b12_1 b13_0 b13_1 ⊢
 clear hBn
 have o0 := b9_0.out
 have lo0 := cell_lt o0; dsimp only at lo0
 have o1 := b9_1.out
 have o2 := b10_0.out
 have lo2 := cell_lt o2; dsimp only at lo2
 have o3 := b10_1.out
 have o4 := b12_0.out
 have lo4 := cell_lt o4; dsimp only at lo4
 have o5 := b12_1.out
 have o6 := b13_0.out
 have lo6 := cell_lt o6; dsimp only at lo6
 have o7 := b13_1.out
 go_wp2_with fail
 refine (works_any _).mono ?_; rintro e w9 ⟨rfl, hE9⟩
 have X9 := hid (X.out.trans (show Ext v5 w9 from exE))
 go_wp2_with fail
 go_ret
 exact ⟨rfl, X9.out⟩
end Go.Proofs.Ytpnfhcnnodolbaa
