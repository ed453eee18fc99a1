/- Texts of one proof, laid together: SH, SI, SJ, SK. -/
import Derived.Test.YtommhgcgaclflaaZB7
import Derived.Test.YtommhgcgaclflaaSG
import Derived.Test.YtommhgcgaclflaaMemE
namespace Go.Proofs.Ytommhgcgaclflaa
set_option linter.unusedVariables false
set_option linter.unusedSimpArgs false
set_option linter.unusedSectionVars false
set_option linter.unnecessarySimpa false
open Go Go.RowKit Game
set_option maxRecDepth 100000

theorem minIf (a b : Int) : (if b < a then b else a) = min a b := by split <;> omega
theorem maxIf (a b : Int) : (if a < b then b else a) = max a b := by split <;> omega


set_option maxHeartbeats 1000000 in
 theorem min_any (a : Option Addr) (cap : Nat) (l : List Int) (n : Nat) (hn : n = l.length) (w : World) (hI : Ints w a l) (h0 : 0 < l.length) (hl : l.length ≤ 1099511627776) (hq : ∀ i, I64 (nth l i)) :
  Calls Try.prog 77 #[.slice a n cap] w fun e w' => e = .returned (.int .i64 (mnTo (nth l) l.length)) ∧ w = w' := by
  subst hn
  obtain ⟨b, off, rfl, hb, hc⟩ := hI.at h0
  have z := hc 0 h0
  rw [Nat.add_zero] at z
  have h1 : mnTo (nth l) 1 = nth l 0 := by simp [mnTo]
  replace h1 := hid h1
  replace hc := hid hc
  have n1 : ¬ ((l.length : Int) < 1) := by omega
  go_enter Try.func77, Try.ntmps77
  go_wp2_with fail
  go_loop [3, 4] (fun m i => ∃ k : Nat, 1 ≤ k ∧ k ≤ l.length ∧ i = .int .i64 k ∧ m = .int .i64 (mnTo (nth l) k)) (fun _ i => (l.length - intOf i).toNat)
  case atStart => exact ⟨1, by omega, by omega, rfl, by rw [h1.out]⟩
  case round =>
   obtain ⟨k, hk1, hk, rfl, rfl⟩ := hrel
   by_cases hlt : k < l.length
   ·have z := hc.out k hlt
    have hs : Hid (mnTo (nth l) (k + 1) = min (mnTo (nth l) k) (nth l k)) := hid rfl
    generalize mnTo (nth l) k = m at *
    generalize nth l k = x at *
    go_wp2_with fail
    go_round
    case rel => exact ⟨k + 1, by omega, by omega, by go_num, by rw [hs.out, ← minIf]⟩
    case measure => simp [intOf]; omega
   ·obtain rfl : k = l.length := by omega
    go_wp2_with fail
    go_ret
    exact ⟨rfl, rfl⟩
set_option maxHeartbeats 1000000 in
 theorem max_any (a : Option Addr) (cap : Nat) (l : List Int) (n : Nat) (hn : n = l.length) (w : World) (hI : Ints w a l) (h0 : 0 < l.length) (hl : l.length ≤ 1099511627776) (hq : ∀ i, I64 (nth l i)) :
  Calls Try.prog 116 #[.slice a n cap] w fun e w' => e = .returned (.int .i64 (mxTo (nth l) l.length)) ∧ w = w' := by
  subst hn
  obtain ⟨b, off, rfl, hb, hc⟩ := hI.at h0
  have z := hc 0 h0
  rw [Nat.add_zero] at z
  have h1 : mxTo (nth l) 1 = nth l 0 := by simp [mxTo]
  replace h1 := hid h1
  replace hc := hid hc
  have n1 : ¬ ((l.length : Int) < 1) := by omega
  go_enter Try.func116, Try.ntmps116
  go_wp2_with fail
  go_loop [3, 4] (fun m i => ∃ k : Nat, 1 ≤ k ∧ k ≤ l.length ∧ i = .int .i64 k ∧ m = .int .i64 (mxTo (nth l) k)) (fun _ i => (l.length - intOf i).toNat)
  case atStart => exact ⟨1, by omega, by omega, rfl, by rw [h1.out]⟩
  case round =>
   obtain ⟨k, hk1, hk, rfl, rfl⟩ := hrel
   by_cases hlt : k < l.length
   ·have z := hc.out k hlt
    have hs : Hid (mxTo (nth l) (k + 1) = max (mxTo (nth l) k) (nth l k)) := hid rfl
    generalize mxTo (nth l) k = m at *
    generalize nth l k = x at *
    go_wp2_with fail
    go_round
    case rel => exact ⟨k + 1, by omega, by omega, by go_num, by rw [hs.out, ← maxIf]⟩
    case measure => simp [intOf]; omega
   ·obtain rfl : k = l.length := by omega
    go_wp2_with fail
    go_ret
    exact ⟨rfl, rfl⟩

theorem rat_null {b : Int} (h : 0 < b) : ratN 0 b = 0 ∧ ratD 0 b = 1 := by
 unfold ratN ratD
 refine ⟨Int.zero_ediv _, ?_⟩
 rw [Int.gcd_zero_left, Int.natAbs_of_nonneg (by omega)]
 exact Int.ediv_self (by omega)

theorem elemI64i : ∃ i, Try.prog.info? 2 = some i ∧ i.size = 1 := by
 obtain ⟨i, h1, _, h2, _⟩ := elemI64
 exact ⟨i, h1, h2⟩
theorem eq4 (x0 x1 x2 x3 : Int) (w : World) : ∃ b : Bool, (Op.equalIn 10000 85 (.agg #[.int .i64 x0, .int .i64 x1, .int .i64 x2, .int .i64 x3]) (.agg #[.int .i64 0, .int .i64 0, .int .i64 0, .int .i64 0])).run Try.prog w = .ok b w ∧ (b = true ↔ x0 = 0 ∧ x1 = 0 ∧ x2 = 0 ∧ x3 = 0) := by
 obtain ⟨ii, hi1, hi2⟩ := elemI64i
 have he := run_eqArr (P := Try.prog) w (t := 85) (k := .i64) Try.underlying85 Try.underlying2 (i := ii) hi1 hi2 #[.int .i64 x0, .int .i64 x1, .int .i64 x2, .int .i64 x3] #[.int .i64 0, .int .i64 0, .int .i64 0, .int .i64 0] (fun j => nth [x0, x1, x2, x3] j) (fun _ => 0) (by
  intro j hj
  have : j = 0 ∨ j = 1 ∨ j = 2 ∨ j = 3 := by omega
  rcases this with rfl | rfl | rfl | rfl <;> exact ⟨rfl, rfl⟩)
 refine ⟨_, he, ?_⟩
 rw [all_range_true]
 constructor
 ·intro h
  have q0 := h 0 (by omega); have q1 := h 1 (by omega); have q2 := h 2 (by omega); have q3 := h 3 (by omega)
  simp [nth] at q0 q1 q2 q3
  exact ⟨q0, q1, q2, q3⟩
 ·rintro ⟨rfl, rfl, rfl, rfl⟩ j hj
  have : j = 0 ∨ j = 1 ∨ j = 2 ∨ j = 3 := by omega
  rcases this with rfl | rfl | rfl | rfl <;> rfl
theorem eq4_yes (w : World) : (Op.equalIn 10000 85 (.agg #[.int .i64 0, .int .i64 0, .int .i64 0, .int .i64 0]) (.agg #[.int .i64 0, .int .i64 0, .int .i64 0, .int .i64 0])).run Try.prog w = .ok true w := by
 obtain ⟨b, h, hb⟩ := eq4 0 0 0 0 w
 rw [h, hb.2 ⟨rfl, rfl, rfl, rfl⟩]
theorem eq4_no (x0 x1 x2 x3 : Int) (h : ¬ (x0 = 0 ∧ x1 = 0 ∧ x2 = 0 ∧ x3 = 0)) (w : World) : (Op.equalIn 10000 85 (.agg #[.int .i64 x0, .int .i64 x1, .int .i64 x2, .int .i64 x3]) (.agg #[.int .i64 0, .int .i64 0, .int .i64 0, .int .i64 0])).run Try.prog w = .ok false w := by
 obtain ⟨b, h1, hb⟩ := eq4 x0 x1 x2 x3 w
 rw [h1, Bool.eq_false_iff.2 (fun e => h (hb.1 e))]

set_option maxHeartbeats 2000000 in
theorem sure_any (t : List (List Int)) (v : VldT t) (p : List Int) (hp : ∀ i, 0 ≤ nth p i ∧ nth p i ≤ 100000000) (hs : 0 < psum p) (hl : p.length = t.length) (D0 : Nat) (a2 : Option Addr) (c2 : Nat) (w : World) (hD : Dsk w D0 t) (hI : Ints w a2 p) :
 Calls Try.prog 63 #[.pointer (some ⟨D0, 0, none⟩), .slice a2 p.length c2] w fun e w' => e = .returned (.agg #[.int .i64 (sureN t p), .int .i64 (sureD t p)]) ∧ Ext w w' := by
 have m1 := v.m1; have m4 := v.m4; have n1 := v.n1; have n4 := v.n4
 have hD' := hid hD
 have hI' := hid hI
 have hag := fun W hW hW2 => against_any t v p hp hl D0 a2 c2 W hW hW2
 replace hag := hid hag
 replace hl := hid hl
 by_cases hz : accF t p p.length 0 = 0 ∧ accF t p p.length 1 = 0 ∧ accF t p p.length 2 = 0 ∧ accF t p p.length 3 = 0
 ·have hzero : lst_ t p = 0 := by
   obtain ⟨i, hi, e⟩ := mnTo_at (agn t p) (n := wid t) (by omega)
   unfold lst_
   rw [← e, ← accF_end hi]
   have : i = 0 ∨ i = 1 ∨ i = 2 ∨ i = 3 := by omega
   rcases this with rfl | rfl | rfl | rfl
   ·exact hz.1
   ·exact hz.2.1
   ·exact hz.2.2.1
   ·exact hz.2.2.2
  have H : Hid (sureN t p = 0 ∧ sureD t p = 1) := hid (by unfold sureN sureD; rw [hzero]; exact rat_null hs)
  obtain ⟨z0, z1, z2, z3⟩ := hz
  rw [z0, z1, z2, z3] at hag
  clear hD hI
  have hq := eq4_yes
  go_enter Try.func63, Try.ntmps63
  go_wp2_with fail
  refine (hag.out _ (hD'.out.ext (by repeat (with_reducible first | assumption | exact Ext.refl _ | refine Ext.drew ?_ | refine Ext.drewN ?_ _ | refine Ext.alloc ?_ _ | refine xS ?_ _ | refine xT ?_ (by assumption)))) (hI'.out.ext (by repeat (with_reducible first | assumption | exact Ext.refl _ | refine Ext.drew ?_ | refine Ext.drewN ?_ _ | refine Ext.alloc ?_ _ | refine xS ?_ _ | refine xT ?_ (by assumption))))).mono ?_; rintro e w1 ⟨rfl, hE⟩
  have c0 := hE.cell (p := ⟨w.heap.size, 0, none⟩) (v := .int .i64 0) (by simp [go_sem])
  have c1 := hE.cell (p := ⟨w.heap.size, 1, none⟩) (v := .int .i64 0) (by simp [go_sem])
  have f0 := hE.frozen (p := ⟨w.heap.size, 0, none⟩) (by simp)
  have f1 := hE.frozen (p := ⟨w.heap.size, 1, none⟩) (by simp)
  simp only [go_sem] at f0 f1
  have zl := Ext.size hE
  simp only [World.size_alloc] at zl
  have zl2 : w.heap.size < w1.heap.size := by omega
  go_wp2_with fail
  refine bodyPost_ret (v := .agg #[.int .i64 0, .int .i64 1]) ?_ rfl ?_
  ·simp [results, Try.results63, go_sem, *]
  ·exact ⟨by rw [H.out.1, H.out.2], (by repeat (with_reducible first | assumption | exact Ext.refl _ | refine Ext.drew ?_ | refine Ext.drewN ?_ _ | refine Ext.alloc ?_ _ | refine xS ?_ _ | refine xT ?_ (by assumption)))⟩
 ·have hq := eq4_no _ _ _ _ hz
  have hm : Hid (sureN t p = ratN (mnTo (fun k => accF t p p.length k) (wid t)) (psum p) ∧ sureD t p = ratD (mnTo (fun k => accF t p p.length k) (wid t)) (psum p)) := hid (by
   unfold sureN sureD lst_
   rw [mnTo_congr (f := fun k => accF t p p.length k) (g := agn t p) (by omega) fun i hi => accF_end hi]
   exact ⟨rfl, rfl⟩)
  have hbd := fun k => accF_bd v hp k p.length
  have hps := sm_bd (n := p.length) (f := nth p) (B := 100000000) fun i _ => hp i
  have hmb : -40000000000 ≤ mnTo (fun k => accF t p p.length k) (wid t) ∧ mnTo (fun k => accF t p p.length k) (wid t) ≤ 40000000000 := by
   obtain ⟨i, hi, e⟩ := mnTo_at (fun k => accF t p p.length k) (n := wid t) (by omega)
   rw [← e]
   have := hbd i
   have := hl.out
   omega
  have hpb : psum p ≤ 400000000 := by
   have := hl.out
   unfold psum; omega
  have hbd4 : ∀ k, -40000000000 ≤ accF t p p.length k ∧ accF t p p.length k ≤ 40000000000 := fun k => by
   have := hbd k
   have := hl.out
   omega
  have hsum := hid (fun W hW => sum_any p hp (by have := hl.out; omega) a2 c2 W hW)
  clear hz hbd hD hI hps
  obtain ⟨z0, h0⟩ : ∃ z, accF t p p.length 0 = z := ⟨_, rfl⟩
  obtain ⟨z1, h1⟩ : ∃ z, accF t p p.length 1 = z := ⟨_, rfl⟩
  obtain ⟨z2, h2⟩ : ∃ z, accF t p p.length 2 = z := ⟨_, rfl⟩
  obtain ⟨z3, h3⟩ : ∃ z, accF t p p.length 3 = z := ⟨_, rfl⟩
  have hls : ∀ k, k < wid t → nth ([z0, z1, z2, z3].take (wid t)) k = accF t p p.length k := fun k hk => by
   have : k = 0 ∨ k = 1 ∨ k = 2 ∨ k = 3 := by omega
   simp only [nth, List.getD_eq_getElem?_getD, List.getElem?_take, hk, if_true]
   rcases this with rfl | rfl | rfl | rfl <;> simp [h0, h1, h2, h3]
  have hln : ([z0, z1, z2, z3].take (wid t)).length = wid t := by simp; omega
  rw [h0, h1, h2, h3] at hag hq
  have hlb : ∀ k, I64 (nth ([z0, z1, z2, z3].take (wid t)) k) := fun k => by
   by_cases hk : k < wid t
   ·rw [hls k hk]; have := hbd4 k; exact ⟨by omega, by omega⟩
   ·rw [nth_ge (by omega)]; exact ⟨by omega, by omega⟩
  rw [← mnTo_congr (f := nth ([z0, z1, z2, z3].take (wid t))) (by omega) hls] at hm hmb
  clear h0 h1 h2 h3 hls hbd4
  generalize hll : [z0, z1, z2, z3].take (wid t) = ll at *
  replace hll := hid hll
  replace hln := hid hln
  replace hlb := hid hlb
  obtain ⟨a, cap, hc, hT⟩ := hD'.out
  obtain ⟨b, off, B, O, C, rfl, hb, hcc⟩ := hT.full (by omega) v.eq (by omega)
  have e00 := (hcc 0 (by omega)).1
  rw [Nat.add_zero] at e00
  have hDl := cell_lt hc
  simp only at hDl
  clear hcc hT
  go_enter Try.func63, Try.ntmps63
  go_wp2_with fail
  refine (hag.out _ (hD'.out.ext (by repeat (with_reducible first | assumption | exact Ext.refl _ | refine Ext.drew ?_ | refine Ext.drewN ?_ _ | refine Ext.alloc ?_ _ | refine xS ?_ _ | refine xT ?_ (by assumption)))) (hI'.out.ext (by repeat (with_reducible first | assumption | exact Ext.refl _ | refine Ext.drew ?_ | refine Ext.drewN ?_ _ | refine Ext.alloc ?_ _ | refine xS ?_ _ | refine xT ?_ (by assumption))))).mono ?_; rintro e w1 ⟨rfl, hE⟩
  have hx : Ext w w1 := (by repeat (with_reducible first | assumption | exact Ext.refl _ | refine Ext.drew ?_ | refine Ext.drewN ?_ _ | refine Ext.alloc ?_ _ | refine xS ?_ _ | refine xT ?_ (by assumption)))
  have hc := hx.cell hc
  have e00 := hx.cell e00
  have c0 := hE.cell (p := ⟨w.heap.size, 0, none⟩) (v := .int .i64 0) (by simp [go_sem])
  have c1 := hE.cell (p := ⟨w.heap.size, 1, none⟩) (v := .int .i64 0) (by simp [go_sem])
  have f0 := hE.frozen (p := ⟨w.heap.size, 0, none⟩) (by simp)
  have f1 := hE.frozen (p := ⟨w.heap.size, 1, none⟩) (by simp)
  simp only [go_sem] at f0 f1
  have zl := Ext.size hE
  simp only [World.size_alloc] at zl
  have zl2 : w.heap.size < w1.heap.size := by omega
  have zl3 : D0 < w1.heap.size := by omega
  have zl4 : b < w1.heap.size := by omega
  have i1 : (0 : Int) ≤ (wid t : Int) := by omega
  have i2 : (wid t : Int) ≤ 4 := by omega
  have i3 : ¬ (wid t : Int) < 0 := by omega
  have i4 : ¬ (4 : Int) < (wid t : Int) := by omega
  have hIll : Hid (Ints (w1.alloc (.cells #[.int .i64 z0, .int .i64 z1, .int .i64 z2, .int .i64 z3] 85)) (some ⟨w1.heap.size, 0, none⟩) ll) := hid (by
   intro k hk
   refine ⟨_, _, rfl, ?_⟩
   rw [hln.out] at hk
   have : k = 0 ∨ k = 1 ∨ k = 2 ∨ k = 3 := by omega
   rw [← hll.out]
   simp only [nth, List.getD_eq_getElem?_getD, List.getElem?_take, hk, if_true]
   rcases this with rfl | rfl | rfl | rfl <;> simp [go_sem])
  go_wp2_with fail
  refine (min_any (some ⟨w1.heap.size, 0, none⟩) _ ll _ hln.out.symm _ hIll.out (by rw [hln.out]; omega) (by rw [hln.out]; omega) hlb.out).mono ?_; rintro e w2 ⟨rfl, rfl⟩
  rw [hln.out]
  go_wp2_with fail
  refine (hsum.out _ (hI'.out.ext (by repeat (with_reducible first | assumption | exact Ext.refl _ | refine Ext.drew ?_ | refine Ext.drewN ?_ _ | refine Ext.alloc ?_ _ | refine xS ?_ _ | refine xT ?_ (by assumption))))).mono ?_; rintro e w2 ⟨rfl, hE2⟩
  have x2 : Ext w1 w2 := (by repeat (with_reducible first | assumption | exact Ext.refl _ | refine Ext.drew ?_ | refine Ext.drewN ?_ _ | refine Ext.alloc ?_ _ | refine xS ?_ _ | refine xT ?_ (by assumption)))
  have f0 := (x2.frozen (p := ⟨w.heap.size, 0, none⟩) zl2).trans f0
  have f1 := (x2.frozen (p := ⟨w.heap.size, 1, none⟩) zl2).trans f1
  have c0 := x2.cell c0
  have c1 := x2.cell c1
  have l2 := cell_lt c0
  simp only at l2
  go_wp2_with fail
  refine (by_any _ _ (by omega) (by omega) hs (by omega) _).mono ?_; rintro e w3 ⟨rfl, hE3⟩
  have f0 := (hE3.frozen (p := ⟨w.heap.size, 0, none⟩) l2).trans f0
  have f1 := (hE3.frozen (p := ⟨w.heap.size, 1, none⟩) l2).trans f1
  have c0 := hE3.cell c0
  have c1 := hE3.cell c1
  obtain ⟨N, eN⟩ : ∃ N, ratN (mnTo (nth ll) (wid t)) (psum p) = N := ⟨_, rfl⟩
  obtain ⟨De, eD⟩ : ∃ N, ratD (mnTo (nth ll) (wid t)) (psum p) = N := ⟨_, rfl⟩
  rw [eN, eD] at hm ⊢
  replace eN := hid eN
  replace eD := hid eD
  go_wp2_with fail
  refine bodyPost_ret (v := .agg #[.int .i64 N, .int .i64 De]) ?_ rfl ?_
  ·simp [results, Try.results63, go_sem, *]
  ·exact ⟨by rw [hm.out.1, hm.out.2], (by repeat (with_reducible first | assumption | exact Ext.refl _ | refine Ext.drew ?_ | refine Ext.drewN ?_ _ | refine Ext.alloc ?_ _ | refine xS ?_ _ | refine xT ?_ (by assumption)))⟩

end Go.Proofs.Ytommhgcgaclflaa
namespace Go.Proofs.Ytommhgcgaclflaa
set_option linter.unusedVariables false
set_option linter.unusedSimpArgs false
set_option linter.unusedSectionVars false
set_option linter.unnecessarySimpa false
open Go Go.RowKit Game
set_option maxRecDepth 100000

def RetDsk (t : List (List Int)) (w : World) (e : Ending) (w' : World) : Prop :=
 ∃ D E, e = .returned (.tuple #[.pointer (some ⟨D, 0, none⟩), .pointer (some ⟨E, 0, none⟩), .int .i64 0]) ∧ Dsk w' D t ∧ Dsk w' E (turn t) ∧ Ext w w'
set_option maxHeartbeats 1000000 in
theorem open_yes (t : List (List Int)) (v : VldT t) (a : Option Addr) (cap : Nat) (w : World) (hT : Tab w a t) :
 Calls Try.prog 61 #[(.agg #[.slice a t.length cap])] w (RetDsk t w) := by
 have m4 := v.m4
 have h1 := hid (chkT_ok.2 v)
 have hw := hid (show ∀ i, (row t i).length ≤ 1000 from fun i => by
  rcases Nat.lt_or_ge i t.length with g | g
  ·rw [v.eq i g]; have := v.n4; omega
  ·rw [row_ge g]; simp)
 have hT' := hid hT
 clear hT
 go_enter Try.func61, Try.ntmps61
 go_wp2_with fail
 refine (checkTable_any t (vld_fit v) a cap _ (hT'.out.ext (by repeat (with_reducible first | assumption | exact Ext.refl _ | refine Ext.drew ?_ | refine Ext.drewN ?_ _ | refine Ext.alloc ?_ _ | refine xS ?_ _ | refine xT ?_ (by assumption)))) (by omega) hw.out).mono ?_; rintro e w1 ⟨rfl, hE⟩
 rw [h1.out]
 have c0 := hE.cell (p := ⟨w.heap.size, 0, none⟩) (v := .slice a t.length cap) (by simp [go_sem])
 go_wp2_with fail
 refine (turned_any t v w1.heap.size _ ⟨a, cap, by simp [go_sem], hT'.out.ext (by repeat (with_reducible first | assumption | exact Ext.refl _ | refine Ext.drew ?_ | refine Ext.drewN ?_ _ | refine Ext.alloc ?_ _ | refine xS ?_ _ | refine xT ?_ (by assumption)))⟩).mono ?_; rintro e w2 ⟨E, rfl, hD2, hE2⟩
 have hD : Dsk w2 w1.heap.size t := ⟨a, cap, hE2.cell (by simp [go_sem]), hT'.out.ext (by repeat (with_reducible first | assumption | exact Ext.refl _ | refine Ext.drew ?_ | refine Ext.drewN ?_ _ | refine Ext.alloc ?_ _ | refine xS ?_ _ | refine xT ?_ (by assumption)))⟩
 have hD := hid hD
 go_wp2_with fail
 go_ret3
 exact ⟨w1.heap.size, E, rfl, hD.out, hD2, (by repeat (with_reducible first | assumption | exact Ext.refl _ | refine Ext.drew ?_ | refine Ext.drewN ?_ _ | refine Ext.alloc ?_ _ | refine xS ?_ _ | refine xT ?_ (by assumption)))⟩
set_option maxHeartbeats 1000000 in
theorem open_no (t : List (List Int)) (q : FitT t) (h : chkT t ≠ 0) (a : Option Addr) (cap : Nat) (w : World) (hT : Tab w a t) (hl : t.length ≤ 1000) (hw : ∀ i, (row t i).length ≤ 1000) :
 Calls Try.prog 61 #[(.agg #[.slice a t.length cap])] w fun e w' => e = .returned (.tuple #[.pointer none, .pointer none, .int .i64 (chkT t)]) ∧ Ext w w' := by
 have hT' := hid hT
 have g : (chkT t != 0) = true := by simpa using h
 clear hT
 go_enter Try.func61, Try.ntmps61
 go_wp2_with fail
 refine (checkTable_any t q a cap _ (hT'.out.ext (by repeat (with_reducible first | assumption | exact Ext.refl _ | refine Ext.drew ?_ | refine Ext.drewN ?_ _ | refine Ext.alloc ?_ _ | refine xS ?_ _ | refine xT ?_ (by assumption)))) hl hw).mono ?_; rintro e w1 ⟨rfl, hE⟩
 go_wp2_with fail
 go_ret3
 exact ⟨rfl, (by repeat (with_reducible first | assumption | exact Ext.refl _ | refine Ext.drew ?_ | refine Ext.drewN ?_ _ | refine Ext.alloc ?_ _ | refine xS ?_ _ | refine xT ?_ (by assumption)))⟩

theorem psum_turn (p : List Int) : psum p = psum p := rfl
theorem hw_of {t : List (List Int)} (v : VldT t) : ∀ i, (row t i).length ≤ 1000 := fun i => by
 rcases Nat.lt_or_ge i t.length with g | g
 ·rw [v.eq i g]; have := v.n4; omega
 ·rw [row_ge g]; simp

def sureE (t : List (List Int)) (p : List Int) : Int := if chkT t ≠ 0 then chkT t else planE p t.length
def sureNE (t : List (List Int)) (p : List Int) : Int := if sureE t p = 0 then sureN t p else 0
def sureDE (t : List (List Int)) (p : List Int) : Int := if sureE t p = 0 then sureD t p else 0
def boundE (t : List (List Int)) (p : List Int) : Int := if chkT t ≠ 0 then chkT t else planE p (wid t)
def boundNE (t : List (List Int)) (p : List Int) : Int := if boundE t p = 0 then - sureN (turn t) p else 0
def boundDE (t : List (List Int)) (p : List Int) : Int := if boundE t p = 0 then sureD (turn t) p else 0
theorem sureE_ok {t : List (List Int)} {p : List Int} : sureE t p = 0 ↔ VldT t ∧ VldP p t.length := by
 unfold sureE
 constructor
 ·intro h
  split at h
  ·rename_i g; exact absurd h g
  ·rename_i g; exact ⟨chkT_ok.1 (by omega), planE_ok.1 h⟩
 ·rintro ⟨v, vp⟩
  rw [if_neg (by simp [chkT_ok.2 v])]; exact planE_ok.2 vp
theorem boundE_ok {t : List (List Int)} {p : List Int} : boundE t p = 0 ↔ VldT t ∧ VldP p (wid t) := by
 unfold boundE
 constructor
 ·intro h
  split at h
  ·rename_i g; exact absurd h g
  ·rename_i g; exact ⟨chkT_ok.1 (by omega), planE_ok.1 h⟩
 ·rintro ⟨v, vp⟩
  rw [if_neg (by simp [chkT_ok.2 v])]; exact planE_ok.2 vp
theorem sureN_bd {t : List (List Int)} (v : VldT t) {p : List Int} (vp : VldP p t.length) : -40000000000 ≤ sureN t p ∧ sureN t p ≤ 40000000000 ∧ 0 < sureD t p ∧ sureD t p ≤ 400000000 := by
 have m4 := v.m4
 have hps := sm_bd (n := p.length) (f := nth p) (B := 100000000) fun i _ => ⟨vp.nn i, vp.le i⟩
 have hl := vp.len
 have h1 : psum p ≤ 400000000 := by unfold psum; omega
 have hb : -40000000000 ≤ lst_ t p ∧ lst_ t p ≤ 40000000000 := by
  obtain ⟨i, hi, e⟩ := mnTo_at (agn t p) (n := wid t) (by have := v.n1; omega)
  have := agn_bd vp.nn v.lo v.hi i
  unfold lst_
  rw [← e]
  omega
 have h2 := ratN_bd vp.ps hb.1 hb.2 (by omega)
 have h3 := (rat_spec (lst_ t p) vp.ps).2.2
 have h4 := rat_le (a := lst_ t p) vp.ps
 unfold sureN sureD
 omega
theorem vldP_turn {t : List (List Int)} {p : List Int} (v : VldP p (wid t)) : VldP p (turn t).length := by rw [turn_len]; exact v

structure Fr (w : World) (T R : Nat) (a : Option Addr) (n cap : Nat) : Prop where
 tc : w.cell? ⟨T, 0, none⟩ = some (.slice a n cap)
 c0 : w.cell? ⟨R, 0, none⟩ = some (.int .i64 0)
 c1 : w.cell? ⟨R, 1, none⟩ = some (.int .i64 0)
 f0 : w.frozen? ⟨R, 0, none⟩ = false
 f1 : w.frozen? ⟨R, 1, none⟩ = false
 l : R < w.heap.size
theorem Fr.ext {w w' : World} {T R : Nat} {a : Option Addr} {n cap : Nat} (h : Fr w T R a n cap) (k : Ext w w') : Fr w' T R a n cap :=
 ⟨k.cell h.tc, k.cell h.c0, k.cell h.c1, (k.frozen h.l).trans h.f0, (k.frozen h.l).trans h.f1, Nat.lt_of_lt_of_le h.l k.size⟩
theorem fr0 (w : World) (a : Option Addr) (n cap : Nat) (A B : TypeId) : Fr ((w.alloc (.cells #[.slice a n cap] A)).alloc (.cells #[.int .i64 0, .int .i64 0] B)) w.heap.size (w.heap.size + 1) a n cap :=
 ⟨by simp [go_sem], by simp [go_sem], by simp [go_sem], by simp [go_sem], by simp [go_sem], by simp⟩
set_option maxHeartbeats 2000000 in
theorem sureP_any (t : List (List Int)) (q : FitT t) (a : Option Addr) (cap : Nat) (p : List Int) (hq : ∀ i, I64 (nth p i)) (hp : p.length ≤ 1000) (a2 : Option Addr) (c2 : Nat) (w : World) (hT : Tab w a t) (hl : t.length ≤ 1000) (hw : ∀ i, (row t i).length ≤ 1000) (hI : Ints w a2 p) :
 Calls Try.prog 19 #[(.agg #[.slice a t.length cap]), .slice a2 p.length c2] w fun e w' => e = .returned (.tuple #[.agg #[.int .i64 (sureNE t p), .int .i64 (sureDE t p)], .int .i64 (sureE t p)]) ∧ Ext w w' := by
 have hT' := hid hT
 have hI' := hid hI
 have hw' := hid hw
 clear hT hI hw
 have h0 : Hid (sureE t p ≠ 0 → sureNE t p = 0 ∧ sureDE t p = 0) := hid fun h => by unfold sureNE sureDE; rw [if_neg h, if_neg h]; exact ⟨rfl, rfl⟩
 have h1 : Hid (sureE t p = 0 → sureNE t p = sureN t p ∧ sureDE t p = sureD t p) := hid fun h => by unfold sureNE sureDE; rw [if_pos h, if_pos h]; exact ⟨rfl, rfl⟩
 have hd : Hid (sureE t p = if chkT t ≠ 0 then chkT t else planE p t.length) := hid rfl
 by_cases g : chkT t = 0
 case neg =>
  have e1 : Hid (sureE t p = chkT t) := hid (by rw [hd.out, if_pos g])
  have e2 := hid (h0.out (by rw [e1.out]; exact g))
  have g1 : (chkT t != 0) = true := by simpa using g
  have hop := hid (fun W hW => open_no t q g a cap W hW hl hw'.out)
  clear h0 h1 hd g
  go_enter Try.func19, Try.ntmps19
  go_wp2_with fail
  refine (hop.out _ (hT'.out.ext (by repeat (with_reducible first | assumption | exact Ext.refl _ | refine Ext.drew ?_ | refine Ext.drewN ?_ _ | refine Ext.alloc ?_ _ | refine xS ?_ _ | refine xT ?_ (by assumption))))).mono ?_; rintro e w1 ⟨rfl, hE⟩
  (have F := hid ((fr0 w a t.length cap 24 30).ext hE); obtain ⟨tc, c0, c1, f0, f1, l0⟩ := F.out)
  go_wp2_with fail
  refine bodyPost_ret (v := .tuple #[.agg #[.int .i64 0, .int .i64 0], .int .i64 (chkT t)]) ?_ rfl ?_
  ·simp [results, Try.results19, go_sem, *]
  ·exact ⟨by rw [e1.out, e2.out.1, e2.out.2], (by repeat (with_reducible first | assumption | exact Ext.refl _ | refine Ext.drew ?_ | refine Ext.drewN ?_ _ | refine Ext.alloc ?_ _ | refine xS ?_ _ | refine xT ?_ (by assumption)))⟩
 case pos =>
  have v := chkT_ok.1 g
  have e1 : Hid (sureE t p = planE p t.length) := hid (by rw [hd.out, if_neg (by simp [g])])
  have hop := hid (fun W hW => open_yes t v a cap W hW)
  have hpl := hid (fun W hW => planned_any p t.length (by omega) hq hp a2 c2 W hW)
  clear hd g
  by_cases g : planE p t.length = 0
  case neg =>
   have e2 := hid (h0.out (by rw [e1.out]; exact g))
   have g1 : (planE p t.length != 0) = true := by simpa using g
   clear h0 h1 g
   go_enter Try.func19, Try.ntmps19
   go_wp2_with fail
   refine (hop.out _ (hT'.out.ext (by repeat (with_reducible first | assumption | exact Ext.refl _ | refine Ext.drew ?_ | refine Ext.drewN ?_ _ | refine Ext.alloc ?_ _ | refine xS ?_ _ | refine xT ?_ (by assumption))))).mono ?_; rintro e w1 ⟨D, E, rfl, hD, hD2, hE⟩
   (have F := hid ((fr0 w a t.length cap 24 30).ext hE); obtain ⟨tc, c0, c1, f0, f1, l0⟩ := F.out)
   go_wp2_with fail
   refine (hpl.out _ (hI'.out.ext (by repeat (with_reducible first | assumption | exact Ext.refl _ | refine Ext.drew ?_ | refine Ext.drewN ?_ _ | refine Ext.alloc ?_ _ | refine xS ?_ _ | refine xT ?_ (by assumption))))).mono ?_; rintro e w2 ⟨rfl, hE2⟩
   (replace F := hid (F.out.ext hE2); clear tc c0 c1 f0 f1 l0; obtain ⟨tc, c0, c1, f0, f1, l0⟩ := F.out)
   go_wp2_with fail
   refine bodyPost_ret (v := .tuple #[.agg #[.int .i64 0, .int .i64 0], .int .i64 (planE p t.length)]) ?_ rfl ?_
   ·simp [results, Try.results19, go_sem, *]
   ·exact ⟨by rw [e1.out, e2.out.1, e2.out.2], (by repeat (with_reducible first | assumption | exact Ext.refl _ | refine Ext.drew ?_ | refine Ext.drewN ?_ _ | refine Ext.alloc ?_ _ | refine xS ?_ _ | refine xT ?_ (by assumption)))⟩
  case pos =>
   have vp := planE_ok.1 g
   have e2 := hid (h1.out (by rw [e1.out]; exact g))
   have e3 : Hid (sureE t p = 0) := hid (by rw [e1.out]; exact g)
   have hsu := hid (fun D0 W hW hW2 => sure_any t v p (fun i => ⟨vp.nn i, vp.le i⟩) vp.ps vp.len D0 a2 c2 W hW hW2)
   replace g := hid g
   clear h0 h1 e1
   go_enter Try.func19, Try.ntmps19
   go_wp2_with fail
   refine (hop.out _ (hT'.out.ext (by repeat (with_reducible first | assumption | exact Ext.refl _ | refine Ext.drew ?_ | refine Ext.drewN ?_ _ | refine Ext.alloc ?_ _ | refine xS ?_ _ | refine xT ?_ (by assumption))))).mono ?_; rintro e w1 ⟨D, E, rfl, hD, hD2, hE⟩
   (have F := hid ((fr0 w a t.length cap 24 30).ext hE); obtain ⟨tc, c0, c1, f0, f1, l0⟩ := F.out)
   replace hD := hid hD
   clear hD2
   go_wp2_with fail
   refine (hpl.out _ (hI'.out.ext (by repeat (with_reducible first | assumption | exact Ext.refl _ | refine Ext.drew ?_ | refine Ext.drewN ?_ _ | refine Ext.alloc ?_ _ | refine xS ?_ _ | refine xT ?_ (by assumption))))).mono ?_; rintro e w2 ⟨rfl, hE2⟩
   rw [g.out]
   (replace F := hid (F.out.ext hE2); clear tc c0 c1 f0 f1 l0; obtain ⟨tc, c0, c1, f0, f1, l0⟩ := F.out)
   go_wp2_with fail
   refine (hsu.out D _ (hD.out.ext (by repeat (with_reducible first | assumption | exact Ext.refl _ | refine Ext.drew ?_ | refine Ext.drewN ?_ _ | refine Ext.alloc ?_ _ | refine xS ?_ _ | refine xT ?_ (by assumption)))) (hI'.out.ext (by repeat (with_reducible first | assumption | exact Ext.refl _ | refine Ext.drew ?_ | refine Ext.drewN ?_ _ | refine Ext.alloc ?_ _ | refine xS ?_ _ | refine xT ?_ (by assumption))))).mono ?_; rintro e w3 ⟨rfl, hE3⟩
   (replace F := hid (F.out.ext hE3); clear tc c0 c1 f0 f1 l0; obtain ⟨tc, c0, c1, f0, f1, l0⟩ := F.out)
   obtain ⟨N, eN⟩ : ∃ N, sureN t p = N := ⟨_, rfl⟩
   obtain ⟨De, eD⟩ : ∃ N, sureD t p = N := ⟨_, rfl⟩
   rw [eN, eD] at e2 ⊢
   replace eN := hid eN
   replace eD := hid eD
   go_wp2_with fail
   refine bodyPost_ret (v := .tuple #[.agg #[.int .i64 N, .int .i64 De], .int .i64 0]) ?_ rfl ?_
   ·simp [results, Try.results19, go_sem, *]
   ·exact ⟨by rw [e3.out, e2.out.1, e2.out.2], (by repeat (with_reducible first | assumption | exact Ext.refl _ | refine Ext.drew ?_ | refine Ext.drewN ?_ _ | refine Ext.alloc ?_ _ | refine xS ?_ _ | refine xT ?_ (by assumption)))⟩

set_option maxHeartbeats 2000000 in
theorem boundP_any (t : List (List Int)) (q : FitT t) (a : Option Addr) (cap : Nat) (p : List Int) (hq : ∀ i, I64 (nth p i)) (hp : p.length ≤ 1000) (a2 : Option Addr) (c2 : Nat) (w : World) (hT : Tab w a t) (hl : t.length ≤ 1000) (hw : ∀ i, (row t i).length ≤ 1000) (hI : Ints w a2 p) :
 Calls Try.prog 21 #[(.agg #[.slice a t.length cap]), .slice a2 p.length c2] w fun e w' => e = .returned (.tuple #[.agg #[.int .i64 (boundNE t p), .int .i64 (boundDE t p)], .int .i64 (boundE t p)]) ∧ Ext w w' := by
 have hT' := hid hT
 have hI' := hid hI
 have hw' := hid hw
 clear hT hI hw
 have h0 : Hid (boundE t p ≠ 0 → boundNE t p = 0 ∧ boundDE t p = 0) := hid fun h => by unfold boundNE boundDE; rw [if_neg h, if_neg h]; exact ⟨rfl, rfl⟩
 have h1 : Hid (boundE t p = 0 → boundNE t p = - sureN (turn t) p ∧ boundDE t p = sureD (turn t) p) := hid fun h => by unfold boundNE boundDE; rw [if_pos h, if_pos h]; exact ⟨rfl, rfl⟩
 have hd : Hid (boundE t p = if chkT t ≠ 0 then chkT t else planE p (wid t)) := hid rfl
 by_cases g : chkT t = 0
 case neg =>
  have e1 : Hid (boundE t p = chkT t) := hid (by rw [hd.out, if_pos g])
  have e2 := hid (h0.out (by rw [e1.out]; exact g))
  have g1 : (chkT t != 0) = true := by simpa using g
  have hop := hid (fun W hW => open_no t q g a cap W hW hl hw'.out)
  clear h0 h1 hd g
  go_enter Try.func21, Try.ntmps21
  go_wp2_with fail
  refine (hop.out _ (hT'.out.ext (by repeat (with_reducible first | assumption | exact Ext.refl _ | refine Ext.drew ?_ | refine Ext.drewN ?_ _ | refine Ext.alloc ?_ _ | refine xS ?_ _ | refine xT ?_ (by assumption))))).mono ?_; rintro e w1 ⟨rfl, hE⟩
  (have F := hid ((fr0 w a t.length cap 24 30).ext hE); obtain ⟨tc, c0, c1, f0, f1, l0⟩ := F.out)
  go_wp2_with fail
  refine bodyPost_ret (v := .tuple #[.agg #[.int .i64 0, .int .i64 0], .int .i64 (chkT t)]) ?_ rfl ?_
  ·simp [results, Try.results21, go_sem, *]
  ·exact ⟨by rw [e1.out, e2.out.1, e2.out.2], (by repeat (with_reducible first | assumption | exact Ext.refl _ | refine Ext.drew ?_ | refine Ext.drewN ?_ _ | refine Ext.alloc ?_ _ | refine xS ?_ _ | refine xT ?_ (by assumption)))⟩
 case pos =>
  have v := chkT_ok.1 g
  have n1 := v.n1; have m1 := v.m1; have n4 := v.n4
  obtain ⟨b, off, B, O, C, rfl, hb, hcc⟩ := hT'.out.full (by omega) v.eq (by omega)
  have e00 := (hcc 0 (by omega)).1
  rw [Nat.add_zero] at e00
  clear hcc
  have e1 : Hid (boundE t p = planE p (wid t)) := hid (by rw [hd.out, if_neg (by simp [g])])
  have hop := hid (fun W hW => open_yes t v (some ⟨b, off, none⟩) cap W hW)
  have hpl := hid (fun W hW => planned_any p (wid t) (hw'.out 0) hq hp a2 c2 W hW)
  clear hd g
  by_cases g : planE p (wid t) = 0
  case neg =>
   have e2 := hid (h0.out (by rw [e1.out]; exact g))
   have g1 : (planE p (wid t) != 0) = true := by simpa using g
   clear h0 h1 g
   go_enter Try.func21, Try.ntmps21
   go_wp2_with fail
   refine (hop.out _ (hT'.out.ext (by repeat (with_reducible first | assumption | exact Ext.refl _ | refine Ext.drew ?_ | refine Ext.drewN ?_ _ | refine Ext.alloc ?_ _ | refine xS ?_ _ | refine xT ?_ (by assumption))))).mono ?_; rintro e w1 ⟨D, E, rfl, hD, hD2, hE⟩
   (have F := hid ((fr0 w (some ⟨b, off, none⟩) t.length cap 24 30).ext hE); obtain ⟨tc, c0, c1, f0, f1, l0⟩ := F.out)
   have e00 := (show Ext w w1 from (by repeat (with_reducible first | assumption | exact Ext.refl _ | refine Ext.drew ?_ | refine Ext.drewN ?_ _ | refine Ext.alloc ?_ _ | refine xS ?_ _ | refine xT ?_ (by assumption)))).cell e00
   go_wp2_with fail
   refine (hpl.out _ (hI'.out.ext (by repeat (with_reducible first | assumption | exact Ext.refl _ | refine Ext.drew ?_ | refine Ext.drewN ?_ _ | refine Ext.alloc ?_ _ | refine xS ?_ _ | refine xT ?_ (by assumption))))).mono ?_; rintro e w2 ⟨rfl, hE2⟩
   (replace F := hid (F.out.ext hE2); clear tc c0 c1 f0 f1 l0; obtain ⟨tc, c0, c1, f0, f1, l0⟩ := F.out)
   go_wp2_with fail
   refine bodyPost_ret (v := .tuple #[.agg #[.int .i64 0, .int .i64 0], .int .i64 (planE p (wid t))]) ?_ rfl ?_
   ·simp [results, Try.results21, go_sem, *]
   ·exact ⟨by rw [e1.out, e2.out.1, e2.out.2], (by repeat (with_reducible first | assumption | exact Ext.refl _ | refine Ext.drew ?_ | refine Ext.drewN ?_ _ | refine Ext.alloc ?_ _ | refine xS ?_ _ | refine xT ?_ (by assumption)))⟩
  case pos =>
   have vp := planE_ok.1 g
   have e2 := hid (h1.out (by rw [e1.out]; exact g))
   have e3 : Hid (boundE t p = 0) := hid (by rw [e1.out]; exact g)
   have hsu := hid (fun D0 W hW hW2 => sure_any (turn t) (turn_vld v) p (fun i => ⟨vp.nn i, vp.le i⟩) vp.ps (by rw [turn_len]; exact vp.len) D0 a2 c2 W hW hW2)
   have hbd := sureN_bd (turn_vld v) (vldP_turn vp)
   replace g := hid g
   clear h0 h1 e1
   go_enter Try.func21, Try.ntmps21
   go_wp2_with fail
   refine (hop.out _ (hT'.out.ext (by repeat (with_reducible first | assumption | exact Ext.refl _ | refine Ext.drew ?_ | refine Ext.drewN ?_ _ | refine Ext.alloc ?_ _ | refine xS ?_ _ | refine xT ?_ (by assumption))))).mono ?_; rintro e w1 ⟨D, E, rfl, hD, hD2, hE⟩
   (have F := hid ((fr0 w (some ⟨b, off, none⟩) t.length cap 24 30).ext hE); obtain ⟨tc, c0, c1, f0, f1, l0⟩ := F.out)
   replace hD2 := hid hD2
   clear hD
   have e00 := (show Ext w w1 from (by repeat (with_reducible first | assumption | exact Ext.refl _ | refine Ext.drew ?_ | refine Ext.drewN ?_ _ | refine Ext.alloc ?_ _ | refine xS ?_ _ | refine xT ?_ (by assumption)))).cell e00
   go_wp2_with fail
   refine (hpl.out _ (hI'.out.ext (by repeat (with_reducible first | assumption | exact Ext.refl _ | refine Ext.drew ?_ | refine Ext.drewN ?_ _ | refine Ext.alloc ?_ _ | refine xS ?_ _ | refine xT ?_ (by assumption))))).mono ?_; rintro e w2 ⟨rfl, hE2⟩
   rw [g.out]
   (replace F := hid (F.out.ext hE2); clear tc c0 c1 f0 f1 l0; obtain ⟨tc, c0, c1, f0, f1, l0⟩ := F.out)
   go_wp2_with fail
   refine (hsu.out E _ (hD2.out.ext (by repeat (with_reducible first | assumption | exact Ext.refl _ | refine Ext.drew ?_ | refine Ext.drewN ?_ _ | refine Ext.alloc ?_ _ | refine xS ?_ _ | refine xT ?_ (by assumption)))) (hI'.out.ext (by repeat (with_reducible first | assumption | exact Ext.refl _ | refine Ext.drew ?_ | refine Ext.drewN ?_ _ | refine Ext.alloc ?_ _ | refine xS ?_ _ | refine xT ?_ (by assumption))))).mono ?_; rintro e w3 ⟨rfl, hE3⟩
   (replace F := hid (F.out.ext hE3); clear tc c0 c1 f0 f1 l0; obtain ⟨tc, c0, c1, f0, f1, l0⟩ := F.out)
   obtain ⟨N, eN⟩ : ∃ N, sureN (turn t) p = N := ⟨_, rfl⟩
   obtain ⟨De, eD⟩ : ∃ N, sureD (turn t) p = N := ⟨_, rfl⟩
   rw [eN] at hbd
   rw [eN, eD] at e2 ⊢
   replace eN := hid eN
   replace eD := hid eD
   go_wp2_with fail
   refine (opposite_any N De (by omega) _).mono ?_; rintro e w4 ⟨rfl, hE4⟩
   (replace F := hid (F.out.ext hE4); clear tc c0 c1 f0 f1 l0; obtain ⟨tc, c0, c1, f0, f1, l0⟩ := F.out)
   go_wp2_with fail
   refine bodyPost_ret (v := .tuple #[.agg #[.int .i64 (-N), .int .i64 De], .int .i64 0]) ?_ rfl ?_
   ·simp [results, Try.results21, go_sem, *]
   ·exact ⟨by rw [e3.out, e2.out.1, e2.out.2], (by repeat (with_reducible first | assumption | exact Ext.refl _ | refine Ext.drew ?_ | refine Ext.drewN ?_ _ | refine Ext.alloc ?_ _ | refine xS ?_ _ | refine xT ?_ (by assumption)))⟩

end Go.Proofs.Ytommhgcgaclflaa
namespace Go.Proofs.Ytommhgcgaclflaa
set_option linter.unusedVariables false
set_option linter.unusedSimpArgs false
set_option linter.unusedSectionVars false
set_option linter.unnecessarySimpa false
open Go Go.RowKit Game
set_option maxRecDepth 100000

def mkL (n : Nat) (f : Nat → Int) : List Int := (List.range n).map f
theorem mkL_len (n : Nat) (f : Nat → Int) : (mkL n f).length = n := by simp [mkL]
theorem mkL_nth {n : Nat} (f : Nat → Int) {k : Nat} (h : k < n) : nth (mkL n f) k = f k := nth_map_range f n k h
theorem mkL_set {n : Nat} (f : Nat → Int) (j : Nat) (y : Int) : (mkL n f).set j y = mkL n (fun k => if k = j then y else f k) := by
 refine List.ext_getElem (by simp [mkL]) fun i h1 h2 => ?_
 simp only [mkL, List.getElem_set, List.getElem_map, List.getElem_range]
 by_cases h : j = i
 ·subst h; simp
 ·rw [if_neg h, if_neg (fun e => h e.symm)]
theorem mkL_congr {n : Nat} {f g : Nat → Int} (h : ∀ k, k < n → f k = g k) : mkL n f = mkL n g := by
 unfold mkL
 exact List.map_congr_left fun k hk => h k (List.mem_range.1 hk)
theorem mkL_rep (n : Nat) : List.replicate n (0 : Int) = mkL n (fun _ => 0) := by
 refine List.ext_getElem (by simp [mkL]) fun i h1 h2 => ?_
 simp [mkL]
def RetI (l : List Int) (w : World) (e : Ending) (w' : World) : Prop := ∃ a cap, e = .returned (.slice a l.length cap) ∧ Ints w' a l ∧ Ext w w'
def agL (t : List (List Int)) (p : List Int) : List Int := mkL (wid t) (accF t p p.length)
theorem agL_nth {t : List (List Int)} {p : List Int} {k : Nat} (h : k < wid t) : nth (agL t p) k = agn t p k := by unfold agL; rw [mkL_nth _ h, accF_end h]

set_option maxHeartbeats 2000000 in
theorem againstR_any (t : List (List Int)) (v : VldT t) (p : List Int) (hp : ∀ i, 0 ≤ nth p i ∧ nth p i ≤ 100000000) (hl : p.length = t.length) (a : Option Addr) (cap : Nat) (a2 : Option Addr) (c2 : Nat) (w : World) (hT : Tab w a t) (hI : Ints w a2 p) :
 Calls Try.prog 78 #[(.agg #[.slice a t.length cap]), .slice a2 p.length c2] w (RetI (agL t p) w) := by
 have m1 := v.m1; have m4 := v.m4; have n1 := v.n1; have n4 := v.n4
 obtain ⟨b, off, B, O, C, rfl, hb, hcc⟩ := hT.full (by omega) v.eq (by omega)
 obtain ⟨b2, o2, rfl, hb2, hpc⟩ := hI.at (by omega)
 have HC := hid hcc
 have HP := hid hpc
 have e00 := (hcc 0 (by omega)).1
 rw [Nat.add_zero] at e00
 clear hcc hT hpc hI
 have hq := hid hp
 clear hp
 obtain ⟨m, hm⟩ : ∃ m, p.length = m := ⟨_, rfl⟩
 have hmm := hid hm
 rw [hm] at hl
 rw [hm]
 have m1' : 1 ≤ m := by omega
 have m4' : m ≤ 4 := by omega
 replace hl := hid hl
 clear hm
 have hag : Hid (agL t p = mkL (wid t) (accF t p m)) := hid (by unfold agL; rw [hmm.out])
 have hB : Ext w (w.alloc (.cells #[.slice (some ⟨b, off, none⟩) t.length cap] 24)) := (by repeat (with_reducible first | assumption | exact Ext.refl _ | refine Ext.drew ?_ | refine Ext.drewN ?_ _ | refine Ext.alloc ?_ _ | refine xS ?_ _ | refine xT ?_ (by assumption)))
 go_enter Try.func78, Try.ntmps78
 obtain ⟨n, hn⟩ : ∃ n, wid t = n := ⟨_, rfl⟩
 rw [hn] at e00 n1 n4
 have hN := hid hn
 clear hn
 go_wp2_with (at_make; refine make_ints rfl _ _ 25 rfl 2 Try.underlying25 elemI64 n rfl rfl (by omega) ?_)
 intro w1 ho hE1
 have tc := hE1.cell (p := ⟨w.heap.size, 0, none⟩) (v := .slice (some ⟨b, off, none⟩) t.length cap) (by simp [go_sem])
 have x1 : Ext w w1 := (by repeat (with_reducible first | assumption | exact Ext.refl _ | refine Ext.drew ?_ | refine Ext.drewN ?_ _ | refine Ext.alloc ?_ _ | refine xS ?_ _ | refine xT ?_ (by assumption)))
 obtain ⟨g, hg⟩ : ∃ g, g = w.heap.size + 1 := ⟨_, rfl⟩
 obtain ⟨T, hT0⟩ : ∃ T, T = w.heap.size := ⟨_, rfl⟩
 rw [← hg] at ho ⊢
 rw [← hT0] at tc ⊢
 have hTg : T < g := by omega
 have hwg : w.heap.size ≤ g := by omega
 replace hg := hid hg
 replace hT0 := hid hT0
 rw [mkL_rep, mkL_congr (fun k _ => (accF_zero t p k).symm)] at ho
 replace ho := hid ho
 go_wp2_with fail
 go_loopw [6] (fun i wr => ∃ i0 : Nat, i0 ≤ m ∧ i = .int .i64 i0 ∧ Hid (OwnI wr g 2 (.slice (some ⟨g, 0, none⟩) n n) (mkL n (accF t p i0))) ∧ Hid (wr.cell? ⟨T, 0, none⟩ = some (.slice (some ⟨b, off, none⟩) t.length cap)) ∧ Ext w wr) (fun i _ => (m - intOf i).toNat)
 case atStart => exact ⟨0, by omega, rfl, ho, hid tc, x1⟩
 case round =>
  obtain ⟨i, hi, rfl, hA, hC, hw⟩ := hrel
  by_cases hlt : i < m
  ·have hil : i < t.length := by have := hl.out; omega
   obtain ⟨p0, _, p1⟩ := HC.out i hil
   have pp := HP.out i (by have := hmm.out; omega)
   have bi := hq.out i
   have HW := hid hw
   clear hw tc x1
   obtain ⟨x, hx⟩ : ∃ x, nth p i = x := ⟨_, rfl⟩
   rw [hx] at pp bi
   replace hx := hid hx
   rw [hN.out] at p0 p1
   go_wp2_with fail
   go_loopw [7] (fun j wr => ∃ j0 : Nat, j0 ≤ n ∧ j = .int .i64 j0 ∧ Hid (OwnI wr g 2 (.slice (some ⟨g, 0, none⟩) n n) (mkL n (mixF t p i j0))) ∧ Hid (wr.cell? ⟨T, 0, none⟩ = some (.slice (some ⟨b, off, none⟩) t.length cap)) ∧ Ext w wr) (fun j _ => (n - intOf j).toNat)
   case atStart => exact ⟨0, by omega, rfl, hid (by rw [mkL_congr (fun k _ => mixF_zero t p i k)]; exact hA.out), hC, HW.out⟩
   case round =>
    obtain ⟨j, hj, rfl, hA2, hC2, hv⟩ := hrel
    by_cases hjl : j < n
    ·have q0 := hv.cell p0
     have q1 := hv.cell (p1 j hjl)
     have qp := hv.cell pp
     obtain ⟨q2, q3, -, q4⟩ := hA2.out.facts (j := j) (by rw [mkL_len]; exact hjl)
     rw [mkL_nth _ hjl, mixF_at t p i j] at q2
     have tc := hC2.out
     have hst := hid (accF_step (t := t) (p := p) (i := i) (k := j) (by rw [hN.out]; exact hjl))
     have b1 := accF_bd v hq.out j i
     have b2 := mul_bd (B := 100) bi.1 bi.2 (v.lo i j) (v.hi i j) (by omega)
     have hmx := hid (fun k => mixF_step t p i j k)
     rw [hx.out] at hst
     obtain ⟨y, hy⟩ : ∃ y, ent t i j = y := ⟨_, rfl⟩
     obtain ⟨z, hz⟩ : ∃ z, accF t p i j = z := ⟨_, rfl⟩
     rw [hy] at q1 b2 hst
     rw [hz] at q2 b1 hst
     replace hy := hid hy
     replace hz := hid hz
     have HV := hid hv
     have z1 := Go.IntWalk.i64_in (x * y) (by omega)
     have z2 := Go.IntWalk.i64_in (z + x * y) (by omega)
     have hown := hid (show OwnI (wr.drew.setCell ⟨g, j, none⟩ (.int .i64 (z + x * y))) g 2 (.slice (some ⟨g, 0, none⟩) n n) (mkL n (mixF t p i (j + 1))) from by
      have h1 := hA2.out.ext (show Ext wr wr.drew from (by repeat (with_reducible first | assumption | exact Ext.refl _ | refine Ext.drew ?_ | refine Ext.drewN ?_ _ | refine Ext.alloc ?_ _ | refine xS ?_ _ | refine xT ?_ (by assumption))))
      have h2 := OwnI.set (b := g) (cap := n) (l := mkL n (mixF t p i j)) (w := wr.drew) (e := 2) (base := g) (by rw [mkL_len]; exact h1) (i := j) (z + x * y)
      rw [mkL_set, mkL_len] at h2
      rw [mkL_congr (g := fun k => if k = j then z + x * y else mixF t p i j k) (fun k _ => by rw [hmx.out k, hst.out])]
      exact h2)
     clear hv
     go_wp2_with fail
     go_still_tail 19, (by kernel_rfl)
     change wpList _ _ _ _ _ wr.drew
     go_wp2_with fail
     go_roundw
     case rel => exact ⟨j + 1, by omega, by go_num, hown, hid (by
      have hne : ¬ g = T := by omega
      simp [go_sem, tc, hne]), by have := HV.out; exact (by repeat (with_reducible first | assumption | exact Ext.refl _ | refine Ext.drew ?_ | refine Ext.drewN ?_ _ | refine Ext.alloc ?_ _ | refine xS ?_ _ | refine xT ?_ (by assumption)))⟩
     case measure => simp [intOf]; omega
    ·obtain rfl : j = n := by omega
     have hA3 := hid (show OwnI wr g 2 (.slice (some ⟨g, 0, none⟩) j j) (mkL j (accF t p (i + 1))) by
      rw [mkL_congr (g := mixF t p i j) (fun k hk => by rw [← hN.out, mixF_end])]; exact hA2.out)
     have HV := hid hv
     clear hv
     go_wp2_with fail
     go_roundw
     case rel => exact ⟨i + 1, by omega, by go_num, hA3, hC2, HV.out⟩
     case measure => simp [intOf]; omega
  ·obtain rfl : i = m := by omega
   have HW := hid hw
   obtain ⟨aa, cc, ee, hII⟩ := hA.out.slice
   simp only [Value.slice.injEq, mkL_len] at ee
   have hfin : Ints wr (some ⟨g, 0, none⟩) (agL t p) := by rw [hag.out, hN.out, ee.1]; exact hII
   have hlen : (agL t p).length = n := by rw [hag.out, mkL_len, hN.out]
   replace hfin := hid hfin
   replace hlen := hid hlen
   clear hw hA ee hII
   go_wp2_with fail
   go_ret
   exact ⟨some ⟨g, 0, none⟩, n, by rw [hlen.out]; rfl, hfin.out, HW.out⟩

theorem agL_bd {t : List (List Int)} (v : VldT t) {p : List Int} (hp : ∀ i, 0 ≤ nth p i ∧ nth p i ≤ 100000000) (hl : p.length = t.length) (k : Nat) : -40000000000 ≤ nth (agL t p) k ∧ nth (agL t p) k ≤ 40000000000 := by
 have m4 := v.m4
 by_cases h : k < wid t
 ·unfold agL; rw [mkL_nth _ h]
  have := accF_bd v hp k p.length
  omega
 ·rw [nth_ge (by unfold agL; rw [mkL_len]; omega)]; omega
theorem lst_agL {t : List (List Int)} (h : 0 < wid t) (p : List Int) : mnTo (nth (agL t p)) (agL t p).length = lst_ t p := by
 unfold lst_
 rw [show (agL t p).length = wid t by unfold agL; rw [mkL_len]]
 exact mnTo_congr h fun i hi => agL_nth hi
set_option maxHeartbeats 2000000 in
theorem sureOfR_any (t : List (List Int)) (v : VldT t) (p : List Int) (hp : ∀ i, 0 ≤ nth p i ∧ nth p i ≤ 100000000) (hs : 0 < psum p) (hl : p.length = t.length) (a : Option Addr) (cap : Nat) (a2 : Option Addr) (c2 : Nat) (w : World) (hT : Tab w a t) (hI : Ints w a2 p) :
 Calls Try.prog 65 #[(.agg #[.slice a t.length cap]), .slice a2 p.length c2] w fun e w' => e = .returned (.agg #[.int .i64 (sureN t p), .int .i64 (sureD t p)]) ∧ Ext w w' := by
 have n1 := v.n1; have n4 := v.n4; have m4 := v.m4
 have hT' := hid hT
 have hI' := hid hI
 have hag := hid (fun W hW hW2 => againstR_any t v p hp hl a cap a2 c2 W hW hW2)
 have hbd := hid (agL_bd v hp hl)
 have hll : (agL t p).length = wid t := by unfold agL; rw [mkL_len]
 have hsum := hid (fun W hW => sumR_any p hp (by omega) a2 c2 W hW)
 have hps := sm_bd (n := p.length) (f := nth p) (B := 100000000) fun i _ => hp i
 have hpb : psum p ≤ 400000000 := by unfold psum; omega
 have hls := hid (lst_agL (t := t) (by omega) p)
 have hdef : Hid (sureN t p = ratN (lst_ t p) (psum p) ∧ sureD t p = ratD (lst_ t p) (psum p)) := hid ⟨rfl, rfl⟩
 have hmb : -40000000000 ≤ lst_ t p ∧ lst_ t p ≤ 40000000000 := by
  rw [← hls.out]
  obtain ⟨i, hi, e⟩ := mnTo_at (nth (agL t p)) (n := (agL t p).length) (by omega)
  rw [← e]; exact hbd.out i
 generalize agL t p = l at *
 clear hT hI hps hp
 have hl0 : 0 < l.length := by omega
 have hl4 : l.length ≤ 4 := by omega
 replace hl := hid hl
 replace hll := hid hll
 go_enter Try.func65, Try.ntmps65
 go_wp2_with fail
 refine (hag.out _ (hT'.out.ext (by repeat (with_reducible first | assumption | exact Ext.refl _ | refine Ext.drew ?_ | refine Ext.drewN ?_ _ | refine Ext.alloc ?_ _ | refine xS ?_ _ | refine xT ?_ (by assumption)))) (hI'.out.ext (by repeat (with_reducible first | assumption | exact Ext.refl _ | refine Ext.drew ?_ | refine Ext.drewN ?_ _ | refine Ext.alloc ?_ _ | refine xS ?_ _ | refine xT ?_ (by assumption))))).mono ?_; rintro e w1 ⟨al, cl, rfl, hIl, hE⟩
 (have F := hid ((fr0 w a t.length cap 24 30).ext hE); obtain ⟨tc, c0, c1, f0, f1, l0⟩ := F.out)
 obtain ⟨bl, ol, rfl, hbl, hlc⟩ := hIl.at hl0
 have q0 := hlc 0 hl0
 rw [Nat.add_zero] at q0
 have HL := hid hlc
 clear hlc hIl
 go_wp2_with fail
 go_loop [6, 7] (fun m i => ∃ k : Nat, k ≤ l.length ∧ i = .int .i64 k ∧ m = .int .i64 (mnTo (nth l) k)) (fun _ i => (l.length - intOf i).toNat)
 case atStart => exact ⟨0, by omega, rfl, rfl⟩
 case round =>
  obtain ⟨k, hk, rfl, rfl⟩ := hrel
  by_cases hlt : k < l.length
  ·have z := HL.out k hlt
   have hst : Hid (mnTo (nth l) (k + 1) = min (mnTo (nth l) k) (nth l k)) := hid rfl
   generalize mnTo (nth l) k = m at *
   generalize nth l k = x at *
   go_wp2_with fail
   go_round
   case rel => exact ⟨k + 1, by omega, by go_num, by rw [hst.out, ← minIf]⟩
   case measure => simp [intOf]; omega
  ·obtain rfl : k = l.length := by omega
   rw [hls.out]
   go_wp2_with fail
   refine (hsum.out _ (hI'.out.ext (by repeat (with_reducible first | assumption | exact Ext.refl _ | refine Ext.drew ?_ | refine Ext.drewN ?_ _ | refine Ext.alloc ?_ _ | refine xS ?_ _ | refine xT ?_ (by assumption))))).mono ?_; rintro e w2 ⟨rfl, hE2⟩
   (replace F := hid (F.out.ext hE2); clear tc c0 c1 f0 f1 l0; obtain ⟨tc, c0, c1, f0, f1, l0⟩ := F.out)
   go_wp2_with fail
   refine (byR_any _ _ (by omega) (by omega) hs (by omega) _).mono ?_; rintro e w3 ⟨rfl, hE3⟩
   (replace F := hid (F.out.ext hE3); clear tc c0 c1 f0 f1 l0; obtain ⟨tc, c0, c1, f0, f1, l0⟩ := F.out)
   rw [← hdef.out.1, ← hdef.out.2]
   obtain ⟨N, eN⟩ : ∃ N, sureN t p = N := ⟨_, rfl⟩
   obtain ⟨De, eD⟩ : ∃ N, sureD t p = N := ⟨_, rfl⟩
   rw [eN, eD]
   replace eN := hid eN
   replace eD := hid eD
   go_wp2_with fail
   refine bodyPost_ret (v := .agg #[.int .i64 N, .int .i64 De]) ?_ rfl ?_
   ·simp [results, Try.results65, go_sem, *]
   ·exact ⟨by rw [eN.out, eD.out], (by repeat (with_reducible first | assumption | exact Ext.refl _ | refine Ext.drew ?_ | refine Ext.drewN ?_ _ | refine Ext.alloc ?_ _ | refine xS ?_ _ | refine xT ?_ (by assumption)))⟩

set_option maxHeartbeats 2000000 in
theorem boundOfR_any (t : List (List Int)) (v : VldT t) (p : List Int) (vp : VldP p (wid t)) (a : Option Addr) (cap : Nat) (a2 : Option Addr) (c2 : Nat) (w : World) (hT : Tab w a t) (hI : Ints w a2 p) :
 Calls Try.prog 67 #[(.agg #[.slice a t.length cap]), .slice a2 p.length c2] w fun e w' => e = .returned (.agg #[.int .i64 (- sureN (turn t) p), .int .i64 (sureD (turn t) p)]) ∧ Ext w w' := by
 have hT' := hid hT
 have hI' := hid hI
 have hbd := sureN_bd (turn_vld v) (vldP_turn vp)
 have hso := hid (fun aa cc W hW hW2 => sureOfR_any (turn t) (turn_vld v) p (fun i => ⟨vp.nn i, vp.le i⟩) vp.ps (by rw [turn_len]; exact vp.len) aa cc a2 c2 W hW hW2)
 clear hT hI
 go_enter Try.func67, Try.ntmps67
 go_wp2_with fail
 refine (turnedR_any t v a cap _ (hT'.out.ext (by repeat (with_reducible first | assumption | exact Ext.refl _ | refine Ext.drew ?_ | refine Ext.drewN ?_ _ | refine Ext.alloc ?_ _ | refine xS ?_ _ | refine xT ?_ (by assumption))))).mono ?_; rintro e w1 ⟨aa, cc, rfl, hTT, hE⟩
 (have F := hid ((fr0 w a t.length cap 24 30).ext hE); obtain ⟨tc, c0, c1, f0, f1, l0⟩ := F.out)
 go_wp2_with fail
 refine (hso.out aa cc _ hTT (hI'.out.ext (by repeat (with_reducible first | assumption | exact Ext.refl _ | refine Ext.drew ?_ | refine Ext.drewN ?_ _ | refine Ext.alloc ?_ _ | refine xS ?_ _ | refine xT ?_ (by assumption))))).mono ?_; rintro e w2 ⟨rfl, hE2⟩
 (replace F := hid (F.out.ext hE2); clear tc c0 c1 f0 f1 l0; obtain ⟨tc, c0, c1, f0, f1, l0⟩ := F.out)
 obtain ⟨N, eN⟩ : ∃ N, sureN (turn t) p = N := ⟨_, rfl⟩
 obtain ⟨De, eD⟩ : ∃ N, sureD (turn t) p = N := ⟨_, rfl⟩
 rw [eN] at hbd
 rw [eN, eD]
 replace eN := hid eN
 replace eD := hid eD
 go_wp2_with fail
 refine (oppositeR_any N De (by omega) _).mono ?_; rintro e w4 ⟨rfl, hE4⟩
 (replace F := hid (F.out.ext hE4); clear tc c0 c1 f0 f1 l0; obtain ⟨tc, c0, c1, f0, f1, l0⟩ := F.out)
 go_wp2_with fail
 refine bodyPost_ret (v := .agg #[.int .i64 (-N), .int .i64 De]) ?_ rfl ?_
 ·simp [results, Try.results67, go_sem, *]
 ·exact ⟨by rw [eN.out, eD.out], (by repeat (with_reducible first | assumption | exact Ext.refl _ | refine Ext.drew ?_ | refine Ext.drewN ?_ _ | refine Ext.alloc ?_ _ | refine xS ?_ _ | refine xT ?_ (by assumption)))⟩

end Go.Proofs.Ytommhgcgaclflaa
namespace Go.Proofs.Ytommhgcgaclflaa
set_option linter.unusedVariables false
set_option linter.unusedSimpArgs false
set_option linter.unusedSectionVars false
set_option linter.unnecessarySimpa false
open Go Go.RowKit Game
set_option maxRecDepth 100000

set_option maxHeartbeats 2000000 in
theorem sureR_any (t : List (List Int)) (q : FitT t) (a : Option Addr) (cap : Nat) (p : List Int) (hq : ∀ i, I64 (nth p i)) (hp : p.length ≤ 1000) (a2 : Option Addr) (c2 : Nat) (w : World) (hT : Tab w a t) (hl : t.length ≤ 1000) (hw : ∀ i, (row t i).length ≤ 1000) (hI : Ints w a2 p) :
 Calls Try.prog 20 #[(.agg #[.slice a t.length cap]), .slice a2 p.length c2] w fun e w' => e = .returned (.tuple #[.agg #[.int .i64 (sureNE t p), .int .i64 (sureDE t p)], .int .i64 (sureE t p)]) ∧ Ext w w' := by
 have hT' := hid hT
 have hI' := hid hI
 have hw' := hid hw
 clear hT hI hw
 have h0 : Hid (sureE t p ≠ 0 → sureNE t p = 0 ∧ sureDE t p = 0) := hid fun h => by unfold sureNE sureDE; rw [if_neg h, if_neg h]; exact ⟨rfl, rfl⟩
 have h1 : Hid (sureE t p = 0 → sureNE t p = sureN t p ∧ sureDE t p = sureD t p) := hid fun h => by unfold sureNE sureDE; rw [if_pos h, if_pos h]; exact ⟨rfl, rfl⟩
 have hd : Hid (sureE t p = if chkT t ≠ 0 then chkT t else planE p t.length) := hid rfl
 by_cases g : chkT t = 0
 case neg =>
  have e1 : Hid (sureE t p = chkT t) := hid (by rw [hd.out, if_pos g])
  have e2 := hid (h0.out (by rw [e1.out]; exact g))
  have g1 : (chkT t != 0) = true := by simpa using g
  have hop := hid (fun W hW => checkTableR_any t q a cap W hW hl hw'.out)
  clear h0 h1 hd g
  go_enter Try.func20, Try.ntmps20
  go_wp2_with fail
  refine (hop.out _ (hT'.out.ext (by repeat (with_reducible first | assumption | exact Ext.refl _ | refine Ext.drew ?_ | refine Ext.drewN ?_ _ | refine Ext.alloc ?_ _ | refine xS ?_ _ | refine xT ?_ (by assumption))))).mono ?_; rintro e w1 ⟨rfl, hE⟩
  (have F := hid ((fr0 w a t.length cap 24 30).ext hE); obtain ⟨tc, c0, c1, f0, f1, l0⟩ := F.out)
  go_wp2_with fail
  refine (hop.out _ (hT'.out.ext (by repeat (with_reducible first | assumption | exact Ext.refl _ | refine Ext.drew ?_ | refine Ext.drewN ?_ _ | refine Ext.alloc ?_ _ | refine xS ?_ _ | refine xT ?_ (by assumption))))).mono ?_; rintro e w2 ⟨rfl, hE2⟩
  (replace F := hid (F.out.ext hE2); clear tc c0 c1 f0 f1 l0; obtain ⟨tc, c0, c1, f0, f1, l0⟩ := F.out)
  go_wp2_with fail
  refine bodyPost_ret (v := .tuple #[.agg #[.int .i64 0, .int .i64 0], .int .i64 (chkT t)]) ?_ rfl ?_
  ·simp [results, Try.results20, go_sem, *]
  ·exact ⟨by rw [e1.out, e2.out.1, e2.out.2], (by repeat (with_reducible first | assumption | exact Ext.refl _ | refine Ext.drew ?_ | refine Ext.drewN ?_ _ | refine Ext.alloc ?_ _ | refine xS ?_ _ | refine xT ?_ (by assumption)))⟩
 case pos =>
  have v := chkT_ok.1 g
  have e1 : Hid (sureE t p = planE p t.length) := hid (by rw [hd.out, if_neg (by simp [g])])
  have hpl := hid (fun W hW => planErrorR_any p t.length (by omega) hq hp a2 c2 W hW)
  have hop := hid (fun W hW => checkTableR_any t q a cap W hW hl hw'.out)
  have g' := hid g
  clear hd g
  by_cases g : planE p t.length = 0
  case neg =>
   have e2 := hid (h0.out (by rw [e1.out]; exact g))
   have g1 : (planE p t.length != 0) = true := by simpa using g
   clear h0 h1 g
   go_enter Try.func20, Try.ntmps20
   go_wp2_with fail
   refine (hop.out _ (hT'.out.ext (by repeat (with_reducible first | assumption | exact Ext.refl _ | refine Ext.drew ?_ | refine Ext.drewN ?_ _ | refine Ext.alloc ?_ _ | refine xS ?_ _ | refine xT ?_ (by assumption))))).mono ?_; rintro e w1 ⟨rfl, hE⟩
   rw [g'.out]
   (have F := hid ((fr0 w a t.length cap 24 30).ext hE); obtain ⟨tc, c0, c1, f0, f1, l0⟩ := F.out)
   go_wp2_with fail
   refine (hpl.out _ (hI'.out.ext (by repeat (with_reducible first | assumption | exact Ext.refl _ | refine Ext.drew ?_ | refine Ext.drewN ?_ _ | refine Ext.alloc ?_ _ | refine xS ?_ _ | refine xT ?_ (by assumption))))).mono ?_; rintro e w2 ⟨rfl, hE2⟩
   (replace F := hid (F.out.ext hE2); clear tc c0 c1 f0 f1 l0; obtain ⟨tc, c0, c1, f0, f1, l0⟩ := F.out)
   go_wp2_with fail
   refine (hpl.out _ (hI'.out.ext (by repeat (with_reducible first | assumption | exact Ext.refl _ | refine Ext.drew ?_ | refine Ext.drewN ?_ _ | refine Ext.alloc ?_ _ | refine xS ?_ _ | refine xT ?_ (by assumption))))).mono ?_; rintro e w3 ⟨rfl, hE3⟩
   (replace F := hid (F.out.ext hE3); clear tc c0 c1 f0 f1 l0; obtain ⟨tc, c0, c1, f0, f1, l0⟩ := F.out)
   go_wp2_with fail
   refine bodyPost_ret (v := .tuple #[.agg #[.int .i64 0, .int .i64 0], .int .i64 (planE p t.length)]) ?_ rfl ?_
   ·simp [results, Try.results20, go_sem, *]
   ·exact ⟨by rw [e1.out, e2.out.1, e2.out.2], (by repeat (with_reducible first | assumption | exact Ext.refl _ | refine Ext.drew ?_ | refine Ext.drewN ?_ _ | refine Ext.alloc ?_ _ | refine xS ?_ _ | refine xT ?_ (by assumption)))⟩
  case pos =>
   have vp := planE_ok.1 g
   have e2 := hid (h1.out (by rw [e1.out]; exact g))
   have e3 : Hid (sureE t p = 0) := hid (by rw [e1.out]; exact g)
   have hsu := hid (fun W hW hW2 => sureOfR_any t v p (fun i => ⟨vp.nn i, vp.le i⟩) vp.ps vp.len a cap a2 c2 W hW hW2)
   replace g := hid g
   clear h0 h1 e1
   go_enter Try.func20, Try.ntmps20
   go_wp2_with fail
   refine (hop.out _ (hT'.out.ext (by repeat (with_reducible first | assumption | exact Ext.refl _ | refine Ext.drew ?_ | refine Ext.drewN ?_ _ | refine Ext.alloc ?_ _ | refine xS ?_ _ | refine xT ?_ (by assumption))))).mono ?_; rintro e w1 ⟨rfl, hE⟩
   rw [g'.out]
   (have F := hid ((fr0 w a t.length cap 24 30).ext hE); obtain ⟨tc, c0, c1, f0, f1, l0⟩ := F.out)
   go_wp2_with fail
   refine (hpl.out _ (hI'.out.ext (by repeat (with_reducible first | assumption | exact Ext.refl _ | refine Ext.drew ?_ | refine Ext.drewN ?_ _ | refine Ext.alloc ?_ _ | refine xS ?_ _ | refine xT ?_ (by assumption))))).mono ?_; rintro e w2 ⟨rfl, hE2⟩
   rw [g.out]
   (replace F := hid (F.out.ext hE2); clear tc c0 c1 f0 f1 l0; obtain ⟨tc, c0, c1, f0, f1, l0⟩ := F.out)
   go_wp2_with fail
   refine (hsu.out _ (hT'.out.ext (by repeat (with_reducible first | assumption | exact Ext.refl _ | refine Ext.drew ?_ | refine Ext.drewN ?_ _ | refine Ext.alloc ?_ _ | refine xS ?_ _ | refine xT ?_ (by assumption)))) (hI'.out.ext (by repeat (with_reducible first | assumption | exact Ext.refl _ | refine Ext.drew ?_ | refine Ext.drewN ?_ _ | refine Ext.alloc ?_ _ | refine xS ?_ _ | refine xT ?_ (by assumption))))).mono ?_; rintro e w3 ⟨rfl, hE3⟩
   (replace F := hid (F.out.ext hE3); clear tc c0 c1 f0 f1 l0; obtain ⟨tc, c0, c1, f0, f1, l0⟩ := F.out)
   rw [← e2.out.1, ← e2.out.2]
   obtain ⟨N, eN⟩ : ∃ N, sureNE t p = N := ⟨_, rfl⟩
   obtain ⟨De, eD⟩ : ∃ N, sureDE t p = N := ⟨_, rfl⟩
   rw [eN, eD]
   replace eN := hid eN
   replace eD := hid eD
   go_wp2_with fail
   refine bodyPost_ret (v := .tuple #[.agg #[.int .i64 N, .int .i64 De], .int .i64 0]) ?_ rfl ?_
   ·simp [results, Try.results20, go_sem, *]
   ·exact ⟨by rw [e3.out, eN.out, eD.out], (by repeat (with_reducible first | assumption | exact Ext.refl _ | refine Ext.drew ?_ | refine Ext.drewN ?_ _ | refine Ext.alloc ?_ _ | refine xS ?_ _ | refine xT ?_ (by assumption)))⟩

set_option maxHeartbeats 2000000 in
theorem boundR_any (t : List (List Int)) (q : FitT t) (a : Option Addr) (cap : Nat) (p : List Int) (hq : ∀ i, I64 (nth p i)) (hp : p.length ≤ 1000) (a2 : Option Addr) (c2 : Nat) (w : World) (hT : Tab w a t) (hl : t.length ≤ 1000) (hw : ∀ i, (row t i).length ≤ 1000) (hI : Ints w a2 p) :
 Calls Try.prog 22 #[(.agg #[.slice a t.length cap]), .slice a2 p.length c2] w fun e w' => e = .returned (.tuple #[.agg #[.int .i64 (boundNE t p), .int .i64 (boundDE t p)], .int .i64 (boundE t p)]) ∧ Ext w w' := by
 have hT' := hid hT
 have hI' := hid hI
 have hw' := hid hw
 clear hT hI hw
 have h0 : Hid (boundE t p ≠ 0 → boundNE t p = 0 ∧ boundDE t p = 0) := hid fun h => by unfold boundNE boundDE; rw [if_neg h, if_neg h]; exact ⟨rfl, rfl⟩
 have h1 : Hid (boundE t p = 0 → boundNE t p = - sureN (turn t) p ∧ boundDE t p = sureD (turn t) p) := hid fun h => by unfold boundNE boundDE; rw [if_pos h, if_pos h]; exact ⟨rfl, rfl⟩
 have hd : Hid (boundE t p = if chkT t ≠ 0 then chkT t else planE p (wid t)) := hid rfl
 by_cases g : chkT t = 0
 case neg =>
  have e1 : Hid (boundE t p = chkT t) := hid (by rw [hd.out, if_pos g])
  have e2 := hid (h0.out (by rw [e1.out]; exact g))
  have g1 : (chkT t != 0) = true := by simpa using g
  have hop := hid (fun W hW => checkTableR_any t q a cap W hW hl hw'.out)
  clear h0 h1 hd g
  go_enter Try.func22, Try.ntmps22
  go_wp2_with fail
  refine (hop.out _ (hT'.out.ext (by repeat (with_reducible first | assumption | exact Ext.refl _ | refine Ext.drew ?_ | refine Ext.drewN ?_ _ | refine Ext.alloc ?_ _ | refine xS ?_ _ | refine xT ?_ (by assumption))))).mono ?_; rintro e w1 ⟨rfl, hE⟩
  (have F := hid ((fr0 w a t.length cap 24 30).ext hE); obtain ⟨tc, c0, c1, f0, f1, l0⟩ := F.out)
  go_wp2_with fail
  refine (hop.out _ (hT'.out.ext (by repeat (with_reducible first | assumption | exact Ext.refl _ | refine Ext.drew ?_ | refine Ext.drewN ?_ _ | refine Ext.alloc ?_ _ | refine xS ?_ _ | refine xT ?_ (by assumption))))).mono ?_; rintro e w2 ⟨rfl, hE2⟩
  (replace F := hid (F.out.ext hE2); clear tc c0 c1 f0 f1 l0; obtain ⟨tc, c0, c1, f0, f1, l0⟩ := F.out)
  go_wp2_with fail
  refine bodyPost_ret (v := .tuple #[.agg #[.int .i64 0, .int .i64 0], .int .i64 (chkT t)]) ?_ rfl ?_
  ·simp [results, Try.results22, go_sem, *]
  ·exact ⟨by rw [e1.out, e2.out.1, e2.out.2], (by repeat (with_reducible first | assumption | exact Ext.refl _ | refine Ext.drew ?_ | refine Ext.drewN ?_ _ | refine Ext.alloc ?_ _ | refine xS ?_ _ | refine xT ?_ (by assumption)))⟩
 case pos =>
  have v := chkT_ok.1 g
  have e1 : Hid (boundE t p = planE p (wid t)) := hid (by rw [hd.out, if_neg (by simp [g])])
  have hpl := hid (fun W hW => planErrorR_any p (wid t) (hw'.out 0) hq hp a2 c2 W hW)
  have n1 := v.n1; have m1 := v.m1; have n4 := v.n4
  obtain ⟨b, off, B, O, C, rfl, hb, hcc⟩ := hT'.out.full (by omega) v.eq (by omega)
  have e00 := (hcc 0 (by omega)).1
  rw [Nat.add_zero] at e00
  clear hcc
  have hop := hid (fun W hW => checkTableR_any t q (some ⟨b, off, none⟩) cap W hW hl hw'.out)
  have g' := hid g
  clear hd g
  by_cases g : planE p (wid t) = 0
  case neg =>
   have e2 := hid (h0.out (by rw [e1.out]; exact g))
   have g1 : (planE p (wid t) != 0) = true := by simpa using g
   clear h0 h1 g
   go_enter Try.func22, Try.ntmps22
   go_wp2_with fail
   refine (hop.out _ (hT'.out.ext (by repeat (with_reducible first | assumption | exact Ext.refl _ | refine Ext.drew ?_ | refine Ext.drewN ?_ _ | refine Ext.alloc ?_ _ | refine xS ?_ _ | refine xT ?_ (by assumption))))).mono ?_; rintro e w1 ⟨rfl, hE⟩
   rw [g'.out]
   (have F := hid ((fr0 w (some ⟨b, off, none⟩) t.length cap 24 30).ext hE); obtain ⟨tc, c0, c1, f0, f1, l0⟩ := F.out)
   have e00 := (show Ext w w1 from (by repeat (with_reducible first | assumption | exact Ext.refl _ | refine Ext.drew ?_ | refine Ext.drewN ?_ _ | refine Ext.alloc ?_ _ | refine xS ?_ _ | refine xT ?_ (by assumption)))).cell e00
   go_wp2_with fail
   refine (hpl.out _ (hI'.out.ext (by repeat (with_reducible first | assumption | exact Ext.refl _ | refine Ext.drew ?_ | refine Ext.drewN ?_ _ | refine Ext.alloc ?_ _ | refine xS ?_ _ | refine xT ?_ (by assumption))))).mono ?_; rintro e w2 ⟨rfl, hE2⟩
   (replace F := hid (F.out.ext hE2); clear tc c0 c1 f0 f1 l0; obtain ⟨tc, c0, c1, f0, f1, l0⟩ := F.out)
   have e00 := hE2.cell e00
   go_wp2_with fail
   refine (hpl.out _ (hI'.out.ext (by repeat (with_reducible first | assumption | exact Ext.refl _ | refine Ext.drew ?_ | refine Ext.drewN ?_ _ | refine Ext.alloc ?_ _ | refine xS ?_ _ | refine xT ?_ (by assumption))))).mono ?_; rintro e w3 ⟨rfl, hE3⟩
   (replace F := hid (F.out.ext hE3); clear tc c0 c1 f0 f1 l0; obtain ⟨tc, c0, c1, f0, f1, l0⟩ := F.out)
   go_wp2_with fail
   refine bodyPost_ret (v := .tuple #[.agg #[.int .i64 0, .int .i64 0], .int .i64 (planE p (wid t))]) ?_ rfl ?_
   ·simp [results, Try.results22, go_sem, *]
   ·exact ⟨by rw [e1.out, e2.out.1, e2.out.2], (by repeat (with_reducible first | assumption | exact Ext.refl _ | refine Ext.drew ?_ | refine Ext.drewN ?_ _ | refine Ext.alloc ?_ _ | refine xS ?_ _ | refine xT ?_ (by assumption)))⟩
  case pos =>
   have vp := planE_ok.1 g
   have e2 := hid (h1.out (by rw [e1.out]; exact g))
   have e3 : Hid (boundE t p = 0) := hid (by rw [e1.out]; exact g)
   have hsu := hid (fun W hW hW2 => boundOfR_any t v p vp (some ⟨b, off, none⟩) cap a2 c2 W hW hW2)
   replace g := hid g
   clear h0 h1 e1
   go_enter Try.func22, Try.ntmps22
   go_wp2_with fail
   refine (hop.out _ (hT'.out.ext (by repeat (with_reducible first | assumption | exact Ext.refl _ | refine Ext.drew ?_ | refine Ext.drewN ?_ _ | refine Ext.alloc ?_ _ | refine xS ?_ _ | refine xT ?_ (by assumption))))).mono ?_; rintro e w1 ⟨rfl, hE⟩
   rw [g'.out]
   (have F := hid ((fr0 w (some ⟨b, off, none⟩) t.length cap 24 30).ext hE); obtain ⟨tc, c0, c1, f0, f1, l0⟩ := F.out)
   have e00 := (show Ext w w1 from (by repeat (with_reducible first | assumption | exact Ext.refl _ | refine Ext.drew ?_ | refine Ext.drewN ?_ _ | refine Ext.alloc ?_ _ | refine xS ?_ _ | refine xT ?_ (by assumption)))).cell e00
   go_wp2_with fail
   refine (hpl.out _ (hI'.out.ext (by repeat (with_reducible first | assumption | exact Ext.refl _ | refine Ext.drew ?_ | refine Ext.drewN ?_ _ | refine Ext.alloc ?_ _ | refine xS ?_ _ | refine xT ?_ (by assumption))))).mono ?_; rintro e w2 ⟨rfl, hE2⟩
   rw [g.out]
   (replace F := hid (F.out.ext hE2); clear tc c0 c1 f0 f1 l0; obtain ⟨tc, c0, c1, f0, f1, l0⟩ := F.out)
   go_wp2_with fail
   refine (hsu.out _ (hT'.out.ext (by repeat (with_reducible first | assumption | exact Ext.refl _ | refine Ext.drew ?_ | refine Ext.drewN ?_ _ | refine Ext.alloc ?_ _ | refine xS ?_ _ | refine xT ?_ (by assumption)))) (hI'.out.ext (by repeat (with_reducible first | assumption | exact Ext.refl _ | refine Ext.drew ?_ | refine Ext.drewN ?_ _ | refine Ext.alloc ?_ _ | refine xS ?_ _ | refine xT ?_ (by assumption))))).mono ?_; rintro e w3 ⟨rfl, hE3⟩
   (replace F := hid (F.out.ext hE3); clear tc c0 c1 f0 f1 l0; obtain ⟨tc, c0, c1, f0, f1, l0⟩ := F.out)
   rw [← e2.out.1, ← e2.out.2]
   obtain ⟨N, eN⟩ : ∃ N, boundNE t p = N := ⟨_, rfl⟩
   obtain ⟨De, eD⟩ : ∃ N, boundDE t p = N := ⟨_, rfl⟩
   rw [eN, eD]
   replace eN := hid eN
   replace eD := hid eD
   go_wp2_with fail
   refine bodyPost_ret (v := .tuple #[.agg #[.int .i64 N, .int .i64 De], .int .i64 0]) ?_ rfl ?_
   ·simp [results, Try.results22, go_sem, *]
   ·exact ⟨by rw [e3.out, eN.out, eD.out], (by repeat (with_reducible first | assumption | exact Ext.refl _ | refine Ext.drew ?_ | refine Ext.drewN ?_ _ | refine Ext.alloc ?_ _ | refine xS ?_ _ | refine xT ?_ (by assumption)))⟩

end Go.Proofs.Ytommhgcgaclflaa
