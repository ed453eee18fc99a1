/- The law SearchValues, walked. (Printed by wip/laws.) -/
import Derived.Test.YtommhgcgaclflaaLng
import Derived.Test.YtommhgcgaclflaaZValues34
import Derived.Test.YtommhgcgaclflaaZB23
namespace Go.Proofs.Ytommhgcgaclflaa
set_option linter.unusedVariables false
set_option linter.unusedSimpArgs false
set_option linter.unusedSectionVars false
set_option linter.unnecessarySimpa false
open Go Go.RowKit Game
set_option maxRecDepth 100000

theorem best_proof {t : List (List Int)} (g : chkT t = 0) : proofE t (bestL t) (bestL (turn t)) = 0 ∧ proofN t (bestL t) (bestL (turn t)) = (val t).1 ∧ proofD t (bestL t) (bestL (turn t)) = (val t).2 := by
  have v := chkT_ok.1 g
  have v2 := turn_vld v
  have p1 := bestL_vld v
  have p2 := bestL_vld v2
  have h1 := bestL_su v
  have h2 := bestL_su v2
  rw [val_turn v] at h2
  have s1 : sureE t (bestL t) = 0 := sureE_ok.2 ⟨v, p1⟩
  have s2 : boundE t (bestL (turn t)) = 0 := by
    unfold boundE
    rw [if_neg (by simp [g])]
    rw [turn_len] at p2
    exact planE_ok.2 p2
  have a1 : sureNE t (bestL t) = (val t).1 := by unfold sureNE; rw [if_pos s1]; exact congrArg Prod.fst h1
  have a2 : sureDE t (bestL t) = (val t).2 := by unfold sureDE; rw [if_pos s1]; exact congrArg Prod.snd h1
  have b1 : boundNE t (bestL (turn t)) = (val t).1 := by
    unfold boundNE; rw [if_pos s2]
    have : sureN (turn t) (bestL (turn t)) = -(val t).1 := congrArg Prod.fst h2
    omega
  have b2 : boundDE t (bestL (turn t)) = (val t).2 := by unfold boundDE; rw [if_pos s2]; exact congrArg Prod.snd h2
  have e : proofE t (bestL t) (bestL (turn t)) = 0 := by
    unfold proofE
    rw [if_neg (by simp [s1]), if_neg (by simp [s2]), if_pos ⟨by rw [a1, b1], by rw [a2, b2]⟩]
  refine ⟨e, ?_, ?_⟩
  · unfold proofN; rw [if_pos e, a1]
  · unfold proofD; rw [if_pos e, a2]
theorem bestL_i64 {t : List (List Int)} (v : VldT t) (i : Nat) : I64 (nth (bestL t) i) := by
  have h := bestL_vld v
  have h1 := h.nn i
  have h2 := h.le i
  exact ⟨by omega, by omega⟩

set_option maxHeartbeats 8000000 in
theorem searchValues_any (t : List (List Int)) (q : FitT t) (a : Option Addr) (cap : Nat) (c : List Int) (hc : ∀ i, I64 (nth c i)) (a2 : Option Addr) (c2 : Nat) (d : List Int) (hd : ∀ i, I64 (nth d i)) (a3 : Option Addr) (c3 : Nat) (w : World) (hT : Tab w a t) (hl : t.length ≤ 9223372036854775807) (hw : ∀ i, (row t i).length ≤ 9223372036854775807) (hI : Ints w a2 c) (hcl : c.length ≤ 9223372036854775807) (hJ : Ints w a3 d) (hdl : d.length ≤ 9223372036854775807) :
    Calls Try.prog 4 #[(.agg #[.slice a t.length cap]), .slice a2 c.length c2, .slice a3 d.length c3] w fun e w' => e = .returned (.bool true) ∧ Ext w w' := by
  have hT' := hid hT
  have hI' := hid hI
  have hJ' := hid hJ
  have hgr := hid (fun W hW => great_any t a cap W hW hl hw)
  have hln := hid (fun b hb W => longC_any c hcl a2 c2 b hb W)
  have hlm := hid (fun b hb W => longC_any d hdl a3 c3 b hb W)
  cases g : grtT t with
  | true =>
    rw [g] at hgr
    clear hT hI hJ hw hl
    go_enter Try.func4, Try.ntmps4
    go_wp2_with fail
    refine (hgr.out _ (hT'.out.ext (by repeat (with_reducible first | assumption | exact Ext.refl _ | refine Ext.drew ?_ | refine Ext.drewN ?_ _ | refine Ext.alloc ?_ _ | (refine Ext.setCell ?_ ?sz _; case sz => (first | (simp; done) | (simp; omega))) | refine Ext.trans ?_ (by assumption))))).mono ?_; rintro e w1 ⟨rfl, hE⟩
    go_wp2_with fail
    refine (works_any _).mono ?_; rintro e w2 ⟨rfl, hE2⟩
    go_wp2_with fail
    go_ret
    exact ⟨rfl, (by repeat (with_reducible first | assumption | exact Ext.refl _ | refine Ext.drew ?_ | refine Ext.drewN ?_ _ | refine Ext.alloc ?_ _ | (refine Ext.setCell ?_ ?sz _; case sz => (first | (simp; done) | (simp; omega))) | refine Ext.trans ?_ (by assumption)))⟩
  | false =>
    rw [g] at hgr
    obtain ⟨hl8, hw8⟩ := grt_no g
    have hl1 : t.length ≤ 1000 := by omega
    have hw1 : ∀ i, (row t i).length ≤ 1000 := fun i => by have := hw8 i; omega
    by_cases g2 : 8 < c.length
    · have hd := decide_eq_true g2
      clear hT hI hJ hw hl hl8 hw8 hl1 hw1
      replace g2 := hid g2
      go_enter Try.func4, Try.ntmps4
      go_wp2_with fail
      refine (hgr.out _ (hT'.out.ext (by repeat (with_reducible first | assumption | exact Ext.refl _ | refine Ext.drew ?_ | refine Ext.drewN ?_ _ | refine Ext.alloc ?_ _ | (refine Ext.setCell ?_ ?sz _; case sz => (first | (simp; done) | (simp; omega))) | refine Ext.trans ?_ (by assumption))))).mono ?_; rintro e w1 ⟨rfl, hE⟩
      go_wp2_with fail
      refine (hln.out true hd _).mono ?_; rintro e w2 ⟨rfl, hE2⟩
      go_wp2_with fail
      refine (works_any _).mono ?_; rintro e w3 ⟨rfl, hE3⟩
      go_wp2_with fail
      go_ret
      exact ⟨rfl, (by repeat (with_reducible first | assumption | exact Ext.refl _ | refine Ext.drew ?_ | refine Ext.drewN ?_ _ | refine Ext.alloc ?_ _ | (refine Ext.setCell ?_ ?sz _; case sz => (first | (simp; done) | (simp; omega))) | refine Ext.trans ?_ (by assumption)))⟩
    · have hd1 := decide_eq_false g2
      by_cases g3 : 8 < d.length
      · have hd2 := decide_eq_true g3
        clear hT hI hJ hw hl hl8 hw8 hl1 hw1
        replace g2 := hid g2
        replace g3 := hid g3
        go_enter Try.func4, Try.ntmps4
        go_wp2_with fail
        refine (hgr.out _ (hT'.out.ext (by repeat (with_reducible first | assumption | exact Ext.refl _ | refine Ext.drew ?_ | refine Ext.drewN ?_ _ | refine Ext.alloc ?_ _ | (refine Ext.setCell ?_ ?sz _; case sz => (first | (simp; done) | (simp; omega))) | refine Ext.trans ?_ (by assumption))))).mono ?_; rintro e w1 ⟨rfl, hE⟩
        go_wp2_with fail
        refine (hln.out false hd1 _).mono ?_; rintro e w2 ⟨rfl, hE2⟩
        go_wp2_with fail
        refine (hlm.out true hd2 _).mono ?_; rintro e w3 ⟨rfl, hE3⟩
        go_wp2_with fail
        refine (works_any _).mono ?_; rintro e w4 ⟨rfl, hE4⟩
        go_wp2_with fail
        go_ret
        exact ⟨rfl, (by repeat (with_reducible first | assumption | exact Ext.refl _ | refine Ext.drew ?_ | refine Ext.drewN ?_ _ | refine Ext.alloc ?_ _ | (refine Ext.setCell ?_ ?sz _; case sz => (first | (simp; done) | (simp; omega))) | refine Ext.trans ?_ (by assumption)))⟩
      · have hd2 := decide_eq_false g3
        have hc1 : c.length ≤ 1000 := by omega
        have hdl1 : d.length ≤ 1000 := by omega
        have h1 := hid (fun W hW => valueP_any t q a cap W hW hl1 hw1)
        have h2 := hid (fun W hW => valueR_any t q a cap W hW hl1 hw1)
        have h3 := hid (fun W hW hK hL => checkProof_any t q a cap c hc hc1 a2 c2 d hd hdl1 a3 c3 W hW hl1 hw1 hK hL)
        have h4 := hid (fun W hW hK hL => checkProofR_any t q a cap c hc hc1 a2 c2 d hd hdl1 a3 c3 W hW hl1 hw1 hK hL)
        have h5 := hid (fun W hW => rows_any t q a cap W hW hl1 hw1)
        have h6 := hid (fun W hW => columns_any t q a cap W hW hl1 hw1)
        have hbp : Hid (chkT t = 0 → ∀ aa bb ca cb W, Tab W a t → Ints W aa (rowsL t) → Ints W bb (colsL t) → Calls Try.prog 28 #[(.agg #[.slice a t.length cap]), .slice aa (rowsL t).length ca, .slice bb (colsL t).length cb] W fun e w' => e = .returned (.tuple #[.agg #[.int .i64 (valNE t), .int .i64 (valDE t)], .int .i64 0]) ∧ Ext W w') := hid fun g aa bb ca cb W hW hK hL => by
          have v := chkT_ok.1 g
          obtain ⟨e1, e2, e3⟩ := best_proof g
          have r1 : rowsL t = bestL t := by unfold rowsL; rw [if_pos g]
          have r2 : colsL t = bestL (turn t) := by unfold colsL; rw [if_pos g]
          have n1 : valNE t = (val t).1 := by unfold valNE; rw [if_pos g]
          have n2 : valDE t = (val t).2 := by unfold valDE; rw [if_pos g]
          rw [r1] at hK ⊢
          rw [r2] at hL ⊢
          have p1 := (bestL_vld v).len
          have p2 := (bestL_vld (turn_vld v)).len
          rw [turn_len] at p2
          have m4 := v.m4
          have n4 := v.n4
          have h := checkProofR_any t q a cap (bestL t) (bestL_i64 v) (by omega) aa ca (bestL (turn t)) (bestL_i64 (turn_vld v)) (by omega) bb cb W hW hl1 hw1 hK hL
          rw [e1, e2, e3] at h
          rw [n1, n2]
          exact h
        have hr4 : (rowsL t).length ≤ 4 ∧ (colsL t).length ≤ 4 ∧ (chkT t ≠ 0 → (rowsL t).length = 0 ∧ (colsL t).length = 0) := by
          unfold rowsL colsL
          by_cases g : chkT t = 0
          · have v := chkT_ok.1 g
            have p1 := (bestL_vld v).len
            have p2 := (bestL_vld (turn_vld v)).len
            rw [turn_len] at p2
            have m4 := v.m4
            have n4 := v.n4
            rw [if_pos g, if_pos g]
            exact ⟨by omega, by omega, fun h => absurd g h⟩
          · rw [if_neg g, if_neg g]
            exact ⟨by simp, by simp, fun _ => ⟨rfl, rfl⟩⟩
        have hx1 := hid (fun aa cc W => longC_any (rowsL t) (by omega) aa cc false (decide_eq_false (by omega)) W)
        have hx2 := hid (fun aa cc W => longC_any (colsL t) (by omega) aa cc false (decide_eq_false (by omega)) W)
        have hz := hr4.2.2
        obtain ⟨sn, hsn⟩ : ∃ x, valNE t = x := ⟨_, rfl⟩
        obtain ⟨sd, hsd⟩ : ∃ x, valDE t = x := ⟨_, rfl⟩
        obtain ⟨pn, hpn⟩ : ∃ x, proofN t c d = x := ⟨_, rfl⟩
        obtain ⟨pd, hpd⟩ : ∃ x, proofD t c d = x := ⟨_, rfl⟩
        obtain ⟨pe, hpe⟩ : ∃ x, proofE t c d = x := ⟨_, rfl⟩
        obtain ⟨ck, hck⟩ : ∃ x, chkT t = x := ⟨_, rfl⟩
        obtain ⟨rl, hrl⟩ : ∃ x, rowsL t = x := ⟨_, rfl⟩
        obtain ⟨kl, hkl⟩ : ∃ x, colsL t = x := ⟨_, rfl⟩
        unfold RetL1 at h5 h6
        rw [hsn, hsd] at h1 h2 hbp
        rw [hpn, hpd, hpe] at h3 h4
        rw [hck] at h1 h2 h5 h6 hbp hz
        rw [hrl] at h5 hbp hx1 hz
        rw [hkl] at h6 hbp hx2 hz
        clear hsn hsd hpn hpd hpe hck hrl hkl hT hI hJ hw hl hl8 hw8 hl1 hw1 hc1 hdl1 g2 g3 hr4
        have eS : ∀ w, (Op.equalIn 10000 30 (.agg #[.int .i64 sn, .int .i64 sd]) (.agg #[.int .i64 sn, .int .i64 sd])).run Try.prog w = .ok true w := fun w => by rw [run_eqRatio]; simp
        have eP : ∀ w, (Op.equalIn 10000 30 (.agg #[.int .i64 pn, .int .i64 pd]) (.agg #[.int .i64 pn, .int .i64 pd])).run Try.prog w = .ok true w := fun w => by rw [run_eqRatio]; simp
        go_enter Try.func4, Try.ntmps4
        go_wp2_with fail
        refine (hgr.out _ (hT'.out.ext (by repeat (with_reducible first | assumption | exact Ext.refl _ | refine Ext.drew ?_ | refine Ext.drewN ?_ _ | refine Ext.alloc ?_ _ | (refine Ext.setCell ?_ ?sz _; case sz => (first | (simp; done) | (simp; omega))) | refine Ext.trans ?_ (by assumption))))).mono ?_; rintro e w1 ⟨rfl, hE⟩
        have mt0 := hid (hE.cell (p := ⟨w.heap.size, 0, none⟩) (v := .slice a t.length cap) (by simp [go_sem]))
        have X := hid (show Ext w w1 from (by repeat (with_reducible first | assumption | exact Ext.refl _ | refine Ext.drew ?_ | refine Ext.drewN ?_ _ | refine Ext.alloc ?_ _ | (refine Ext.setCell ?_ ?sz _; case sz => (first | (simp; done) | (simp; omega))) | refine Ext.trans ?_ (by assumption))))
        clear hE
        generalize w.heap.size = Bt at *
        have r_mt0 := mt0.out
        have l_mt0 := cell_lt r_mt0
        dsimp only at l_mt0
        go_wp2_with fail
        refine (hln.out false hd1 _).mono ?_; rintro e u1 ⟨rfl, hE⟩
        have x : Ext w1 u1 := (by repeat (with_reducible first | assumption | exact Ext.refl _ | refine Ext.drew ?_ | refine Ext.drewN ?_ _ | refine Ext.alloc ?_ _ | (refine Ext.setCell ?_ ?sz _; case sz => (first | (simp; done) | (simp; omega))) | refine Ext.trans ?_ (by assumption)))
        clear r_mt0 l_mt0
        replace mt0 := hid (x.cell mt0.out)
        replace X := hid (X.out.trans x)
        clear x hE
        have r_mt0 := mt0.out
        have l_mt0 := cell_lt r_mt0
        dsimp only at l_mt0
        go_wp2_with fail
        refine (hlm.out false hd2 _).mono ?_; rintro e u2 ⟨rfl, hE⟩
        have x : Ext u1 u2 := (by repeat (with_reducible first | assumption | exact Ext.refl _ | refine Ext.drew ?_ | refine Ext.drewN ?_ _ | refine Ext.alloc ?_ _ | (refine Ext.setCell ?_ ?sz _; case sz => (first | (simp; done) | (simp; omega))) | refine Ext.trans ?_ (by assumption)))
        clear r_mt0 l_mt0
        replace mt0 := hid (x.cell mt0.out)
        replace X := hid (X.out.trans x)
        clear x hE
        have r_mt0 := mt0.out
        have l_mt0 := cell_lt r_mt0
        dsimp only at l_mt0
        go_wp2_with fail
        refine (h1.out _ (hT'.out.ext (X.out.trans (show Ext u2 _ from (by repeat (with_reducible first | assumption | exact Ext.refl _ | refine Ext.drew ?_ | refine Ext.drewN ?_ _ | refine Ext.alloc ?_ _ | (refine Ext.setCell ?_ ?sz _; case sz => (first | (simp; done) | (simp; omega))) | refine Ext.trans ?_ (by assumption))))))).mono ?_; rintro e u3 ⟨rfl, hE⟩
        have x : Ext u2 u3 := (by repeat (with_reducible first | assumption | exact Ext.refl _ | refine Ext.drew ?_ | refine Ext.drewN ?_ _ | refine Ext.alloc ?_ _ | (refine Ext.setCell ?_ ?sz _; case sz => (first | (simp; done) | (simp; omega))) | refine Ext.trans ?_ (by assumption)))
        clear r_mt0 l_mt0
        replace mt0 := hid (x.cell mt0.out)
        replace X := hid (X.out.trans x)
        clear x hE
        have r_mt0 := mt0.out
        have l_mt0 := cell_lt r_mt0
        dsimp only at l_mt0
        go_wp2_with fail
        refine name_c (fun v4 hw => ?_)
        have x : Ext u3 v4 := by rw [hw]; exact (by repeat (with_reducible first | assumption | exact Ext.refl _ | refine Ext.drew ?_ | refine Ext.drewN ?_ _ | refine Ext.alloc ?_ _ | (refine Ext.setCell ?_ ?sz _; case sz => (first | (simp; done) | (simp; omega))) | refine Ext.trans ?_ (by assumption)))
        have pa0 := hid (show v4.cell? ⟨u3.heap.size, 0, none⟩ = some (.int .i64 sn) by rw [hw]; simp [go_sem])
        have pa1 := hid (show v4.cell? ⟨u3.heap.size, 1, none⟩ = some (.int .i64 sd) by rw [hw]; simp [go_sem])
        clear r_mt0 l_mt0
        replace mt0 := hid (x.cell mt0.out)
        replace X := hid (X.out.trans x)
        clear x hw
        generalize u3.heap.size = Bpa at *
        refine (h2.out _ (hT'.out.ext (X.out.trans (show Ext v4 _ from (by repeat (with_reducible first | assumption | exact Ext.refl _ | refine Ext.drew ?_ | refine Ext.drewN ?_ _ | refine Ext.alloc ?_ _ | (refine Ext.setCell ?_ ?sz _; case sz => (first | (simp; done) | (simp; omega))) | refine Ext.trans ?_ (by assumption))))))).mono ?_; rintro e u5 ⟨rfl, hE⟩
        have x : Ext v4 u5 := (by repeat (with_reducible first | assumption | exact Ext.refl _ | refine Ext.drew ?_ | refine Ext.drewN ?_ _ | refine Ext.alloc ?_ _ | (refine Ext.setCell ?_ ?sz _; case sz => (first | (simp; done) | (simp; omega))) | refine Ext.trans ?_ (by assumption)))
        replace mt0 := hid (x.cell mt0.out)
        replace pa0 := hid (x.cell pa0.out)
        replace pa1 := hid (x.cell pa1.out)
        replace X := hid (X.out.trans x)
        clear x hE
        have r_mt0 := mt0.out
        have l_mt0 := cell_lt r_mt0
        dsimp only at l_mt0
        go_wp2_with fail
        refine name_c (fun v6 hw => ?_)
        have x : Ext u5 v6 := by rw [hw]; exact (by repeat (with_reducible first | assumption | exact Ext.refl _ | refine Ext.drew ?_ | refine Ext.drewN ?_ _ | refine Ext.alloc ?_ _ | (refine Ext.setCell ?_ ?sz _; case sz => (first | (simp; done) | (simp; omega))) | refine Ext.trans ?_ (by assumption)))
        have pb0 := hid (show v6.cell? ⟨u5.heap.size, 0, none⟩ = some (.int .i64 sn) by rw [hw]; simp [go_sem])
        have pb1 := hid (show v6.cell? ⟨u5.heap.size, 1, none⟩ = some (.int .i64 sd) by rw [hw]; simp [go_sem])
        clear r_mt0 l_mt0
        replace mt0 := hid (x.cell mt0.out)
        replace pa0 := hid (x.cell pa0.out)
        replace pa1 := hid (x.cell pa1.out)
        replace X := hid (X.out.trans x)
        clear x hw
        generalize u5.heap.size = Bpb at *
        refine (h3.out _ (hT'.out.ext (X.out.trans (show Ext v6 _ from (by repeat (with_reducible first | assumption | exact Ext.refl _ | refine Ext.drew ?_ | refine Ext.drewN ?_ _ | refine Ext.alloc ?_ _ | (refine Ext.setCell ?_ ?sz _; case sz => (first | (simp; done) | (simp; omega))) | refine Ext.trans ?_ (by assumption)))))) (hI'.out.ext (X.out.trans (show Ext v6 _ from (by repeat (with_reducible first | assumption | exact Ext.refl _ | refine Ext.drew ?_ | refine Ext.drewN ?_ _ | refine Ext.alloc ?_ _ | (refine Ext.setCell ?_ ?sz _; case sz => (first | (simp; done) | (simp; omega))) | refine Ext.trans ?_ (by assumption)))))) (hJ'.out.ext (X.out.trans (show Ext v6 _ from (by repeat (with_reducible first | assumption | exact Ext.refl _ | refine Ext.drew ?_ | refine Ext.drewN ?_ _ | refine Ext.alloc ?_ _ | (refine Ext.setCell ?_ ?sz _; case sz => (first | (simp; done) | (simp; omega))) | refine Ext.trans ?_ (by assumption))))))).mono ?_; rintro e u7 ⟨rfl, hE⟩
        have x : Ext v6 u7 := (by repeat (with_reducible first | assumption | exact Ext.refl _ | refine Ext.drew ?_ | refine Ext.drewN ?_ _ | refine Ext.alloc ?_ _ | (refine Ext.setCell ?_ ?sz _; case sz => (first | (simp; done) | (simp; omega))) | refine Ext.trans ?_ (by assumption)))
        replace mt0 := hid (x.cell mt0.out)
        replace pa0 := hid (x.cell pa0.out)
        replace pa1 := hid (x.cell pa1.out)
        replace pb0 := hid (x.cell pb0.out)
        replace pb1 := hid (x.cell pb1.out)
        replace X := hid (X.out.trans x)
        clear x hE
        have r_mt0 := mt0.out
        have l_mt0 := cell_lt r_mt0
        dsimp only at l_mt0
        go_wp2_with fail
        refine name_c (fun v8 hw => ?_)
        have x : Ext u7 v8 := by rw [hw]; exact (by repeat (with_reducible first | assumption | exact Ext.refl _ | refine Ext.drew ?_ | refine Ext.drewN ?_ _ | refine Ext.alloc ?_ _ | (refine Ext.setCell ?_ ?sz _; case sz => (first | (simp; done) | (simp; omega))) | refine Ext.trans ?_ (by assumption)))
        have pc0 := hid (show v8.cell? ⟨u7.heap.size, 0, none⟩ = some (.int .i64 pn) by rw [hw]; simp [go_sem])
        have pc1 := hid (show v8.cell? ⟨u7.heap.size, 1, none⟩ = some (.int .i64 pd) by rw [hw]; simp [go_sem])
        clear r_mt0 l_mt0
        replace mt0 := hid (x.cell mt0.out)
        replace pa0 := hid (x.cell pa0.out)
        replace pa1 := hid (x.cell pa1.out)
        replace pb0 := hid (x.cell pb0.out)
        replace pb1 := hid (x.cell pb1.out)
        replace X := hid (X.out.trans x)
        clear x hw
        generalize u7.heap.size = Bpc at *
        refine (h4.out _ (hT'.out.ext (X.out.trans (show Ext v8 _ from (by repeat (with_reducible first | assumption | exact Ext.refl _ | refine Ext.drew ?_ | refine Ext.drewN ?_ _ | refine Ext.alloc ?_ _ | (refine Ext.setCell ?_ ?sz _; case sz => (first | (simp; done) | (simp; omega))) | refine Ext.trans ?_ (by assumption)))))) (hI'.out.ext (X.out.trans (show Ext v8 _ from (by repeat (with_reducible first | assumption | exact Ext.refl _ | refine Ext.drew ?_ | refine Ext.drewN ?_ _ | refine Ext.alloc ?_ _ | (refine Ext.setCell ?_ ?sz _; case sz => (first | (simp; done) | (simp; omega))) | refine Ext.trans ?_ (by assumption)))))) (hJ'.out.ext (X.out.trans (show Ext v8 _ from (by repeat (with_reducible first | assumption | exact Ext.refl _ | refine Ext.drew ?_ | refine Ext.drewN ?_ _ | refine Ext.alloc ?_ _ | (refine Ext.setCell ?_ ?sz _; case sz => (first | (simp; done) | (simp; omega))) | refine Ext.trans ?_ (by assumption))))))).mono ?_; rintro e u9 ⟨rfl, hE⟩
        have x : Ext v8 u9 := (by repeat (with_reducible first | assumption | exact Ext.refl _ | refine Ext.drew ?_ | refine Ext.drewN ?_ _ | refine Ext.alloc ?_ _ | (refine Ext.setCell ?_ ?sz _; case sz => (first | (simp; done) | (simp; omega))) | refine Ext.trans ?_ (by assumption)))
        replace mt0 := hid (x.cell mt0.out)
        replace pa0 := hid (x.cell pa0.out)
        replace pa1 := hid (x.cell pa1.out)
        replace pb0 := hid (x.cell pb0.out)
        replace pb1 := hid (x.cell pb1.out)
        replace pc0 := hid (x.cell pc0.out)
        replace pc1 := hid (x.cell pc1.out)
        replace X := hid (X.out.trans x)
        clear x hE
        have r_mt0 := mt0.out
        have l_mt0 := cell_lt r_mt0
        dsimp only at l_mt0
        go_wp2_with fail
        refine name_c (fun v10 hw => ?_)
        have x : Ext u9 v10 := by rw [hw]; exact (by repeat (with_reducible first | assumption | exact Ext.refl _ | refine Ext.drew ?_ | refine Ext.drewN ?_ _ | refine Ext.alloc ?_ _ | (refine Ext.setCell ?_ ?sz _; case sz => (first | (simp; done) | (simp; omega))) | refine Ext.trans ?_ (by assumption)))
        have pd0 := hid (show v10.cell? ⟨u9.heap.size, 0, none⟩ = some (.int .i64 pn) by rw [hw]; simp [go_sem])
        have pd1 := hid (show v10.cell? ⟨u9.heap.size, 1, none⟩ = some (.int .i64 pd) by rw [hw]; simp [go_sem])
        clear r_mt0 l_mt0
        replace mt0 := hid (x.cell mt0.out)
        replace pa0 := hid (x.cell pa0.out)
        replace pa1 := hid (x.cell pa1.out)
        replace pb0 := hid (x.cell pb0.out)
        replace pb1 := hid (x.cell pb1.out)
        replace pc0 := hid (x.cell pc0.out)
        replace pc1 := hid (x.cell pc1.out)
        replace X := hid (X.out.trans x)
        clear x hw
        generalize u9.heap.size = Bpd at *
        refine (h5.out _ (hT'.out.ext (X.out.trans (show Ext v10 _ from (by repeat (with_reducible first | assumption | exact Ext.refl _ | refine Ext.drew ?_ | refine Ext.drewN ?_ _ | refine Ext.alloc ?_ _ | (refine Ext.setCell ?_ ?sz _; case sz => (first | (simp; done) | (simp; omega))) | refine Ext.trans ?_ (by assumption))))))).mono ?_; rintro e u11 ⟨ar, cr, rfl, lr_, hE⟩
        have x : Ext v10 u11 := (by repeat (with_reducible first | assumption | exact Ext.refl _ | refine Ext.drew ?_ | refine Ext.drewN ?_ _ | refine Ext.alloc ?_ _ | (refine Ext.setCell ?_ ?sz _; case sz => (first | (simp; done) | (simp; omega))) | refine Ext.trans ?_ (by assumption)))
        replace mt0 := hid (x.cell mt0.out)
        replace pa0 := hid (x.cell pa0.out)
        replace pa1 := hid (x.cell pa1.out)
        replace pb0 := hid (x.cell pb0.out)
        replace pb1 := hid (x.cell pb1.out)
        replace pc0 := hid (x.cell pc0.out)
        replace pc1 := hid (x.cell pc1.out)
        replace pd0 := hid (x.cell pd0.out)
        replace pd1 := hid (x.cell pd1.out)
        replace X := hid (X.out.trans x)
        have lr := hid lr_
        clear lr_
        clear x hE
        have r_mt0 := mt0.out
        have l_mt0 := cell_lt r_mt0
        dsimp only at l_mt0
        go_wp2_with fail
        refine (h6.out _ (hT'.out.ext (X.out.trans (show Ext u11 _ from (by repeat (with_reducible first | assumption | exact Ext.refl _ | refine Ext.drew ?_ | refine Ext.drewN ?_ _ | refine Ext.alloc ?_ _ | (refine Ext.setCell ?_ ?sz _; case sz => (first | (simp; done) | (simp; omega))) | refine Ext.trans ?_ (by assumption))))))).mono ?_; rintro e u12 ⟨ak, ck2, rfl, lk_, hE⟩
        have x : Ext u11 u12 := (by repeat (with_reducible first | assumption | exact Ext.refl _ | refine Ext.drew ?_ | refine Ext.drewN ?_ _ | refine Ext.alloc ?_ _ | (refine Ext.setCell ?_ ?sz _; case sz => (first | (simp; done) | (simp; omega))) | refine Ext.trans ?_ (by assumption)))
        clear r_mt0 l_mt0
        replace mt0 := hid (x.cell mt0.out)
        replace pa0 := hid (x.cell pa0.out)
        replace pa1 := hid (x.cell pa1.out)
        replace pb0 := hid (x.cell pb0.out)
        replace pb1 := hid (x.cell pb1.out)
        replace pc0 := hid (x.cell pc0.out)
        replace pc1 := hid (x.cell pc1.out)
        replace pd0 := hid (x.cell pd0.out)
        replace pd1 := hid (x.cell pd1.out)
        replace lr := hid (lr.out.ext x)
        replace X := hid (X.out.trans x)
        have lk := hid lk_
        clear lk_
        clear x hE
        have r_mt0 := mt0.out
        have l_mt0 := cell_lt r_mt0
        dsimp only at l_mt0
        have r_pa0 := pa0.out
        have l_pa0 := cell_lt r_pa0
        dsimp only at l_pa0
        have r_pa1 := pa1.out
        have l_pa1 := cell_lt r_pa1
        dsimp only at l_pa1
        have r_pb0 := pb0.out
        have l_pb0 := cell_lt r_pb0
        dsimp only at l_pb0
        have r_pb1 := pb1.out
        have l_pb1 := cell_lt r_pb1
        dsimp only at l_pb1
        have r_pc0 := pc0.out
        have l_pc0 := cell_lt r_pc0
        dsimp only at l_pc0
        have r_pc1 := pc1.out
        have l_pc1 := cell_lt r_pc1
        dsimp only at l_pc1
        have r_pd0 := pd0.out
        have l_pd0 := cell_lt r_pd0
        dsimp only at l_pd0
        have r_pd1 := pd1.out
        have l_pd1 := cell_lt r_pd1
        dsimp only at l_pd1
        go_wp2_with fail
        refine (hx1.out _ _ _).mono ?_; rintro e u13 ⟨rfl, hE⟩
        have x : Ext u12 u13 := (by repeat (with_reducible first | assumption | exact Ext.refl _ | refine Ext.drew ?_ | refine Ext.drewN ?_ _ | refine Ext.alloc ?_ _ | (refine Ext.setCell ?_ ?sz _; case sz => (first | (simp; done) | (simp; omega))) | refine Ext.trans ?_ (by assumption)))
        clear r_mt0 l_mt0 r_pa0 l_pa0 r_pa1 l_pa1 r_pb0 l_pb0 r_pb1 l_pb1 r_pc0 l_pc0 r_pc1 l_pc1 r_pd0 l_pd0 r_pd1 l_pd1
        replace mt0 := hid (x.cell mt0.out)
        replace pa0 := hid (x.cell pa0.out)
        replace pa1 := hid (x.cell pa1.out)
        replace pb0 := hid (x.cell pb0.out)
        replace pb1 := hid (x.cell pb1.out)
        replace pc0 := hid (x.cell pc0.out)
        replace pc1 := hid (x.cell pc1.out)
        replace pd0 := hid (x.cell pd0.out)
        replace pd1 := hid (x.cell pd1.out)
        replace lr := hid (lr.out.ext x)
        replace lk := hid (lk.out.ext x)
        replace X := hid (X.out.trans x)
        clear x hE
        have r_mt0 := mt0.out
        have l_mt0 := cell_lt r_mt0
        dsimp only at l_mt0
        have r_pa0 := pa0.out
        have l_pa0 := cell_lt r_pa0
        dsimp only at l_pa0
        have r_pa1 := pa1.out
        have l_pa1 := cell_lt r_pa1
        dsimp only at l_pa1
        have r_pb0 := pb0.out
        have l_pb0 := cell_lt r_pb0
        dsimp only at l_pb0
        have r_pb1 := pb1.out
        have l_pb1 := cell_lt r_pb1
        dsimp only at l_pb1
        have r_pc0 := pc0.out
        have l_pc0 := cell_lt r_pc0
        dsimp only at l_pc0
        have r_pc1 := pc1.out
        have l_pc1 := cell_lt r_pc1
        dsimp only at l_pc1
        have r_pd0 := pd0.out
        have l_pd0 := cell_lt r_pd0
        dsimp only at l_pd0
        have r_pd1 := pd1.out
        have l_pd1 := cell_lt r_pd1
        dsimp only at l_pd1
        go_wp2_with fail
        refine (hx2.out _ _ _).mono ?_; rintro e u14 ⟨rfl, hE⟩
        have x : Ext u13 u14 := (by repeat (with_reducible first | assumption | exact Ext.refl _ | refine Ext.drew ?_ | refine Ext.drewN ?_ _ | refine Ext.alloc ?_ _ | (refine Ext.setCell ?_ ?sz _; case sz => (first | (simp; done) | (simp; omega))) | refine Ext.trans ?_ (by assumption)))
        clear r_mt0 l_mt0 r_pa0 l_pa0 r_pa1 l_pa1 r_pb0 l_pb0 r_pb1 l_pb1 r_pc0 l_pc0 r_pc1 l_pc1 r_pd0 l_pd0 r_pd1 l_pd1
        replace mt0 := hid (x.cell mt0.out)
        replace pa0 := hid (x.cell pa0.out)
        replace pa1 := hid (x.cell pa1.out)
        replace pb0 := hid (x.cell pb0.out)
        replace pb1 := hid (x.cell pb1.out)
        replace pc0 := hid (x.cell pc0.out)
        replace pc1 := hid (x.cell pc1.out)
        replace pd0 := hid (x.cell pd0.out)
        replace pd1 := hid (x.cell pd1.out)
        replace lr := hid (lr.out.ext x)
        replace lk := hid (lk.out.ext x)
        replace X := hid (X.out.trans x)
        clear x hE
        by_cases gk : ck = 0
        · subst gk
          replace hbp := hid (hbp.out rfl)
          clear hz
          have r_mt0 := mt0.out
          have l_mt0 := cell_lt r_mt0
          dsimp only at l_mt0
          go_wp2_with fail
          refine (hbp.out _ _ _ _ _ (hT'.out.ext (X.out.trans (show Ext u14 _ from (by repeat (with_reducible first | assumption | exact Ext.refl _ | refine Ext.drew ?_ | refine Ext.drewN ?_ _ | refine Ext.alloc ?_ _ | (refine Ext.setCell ?_ ?sz _; case sz => (first | (simp; done) | (simp; omega))) | refine Ext.trans ?_ (by assumption)))))) (lr.out.ext (show Ext u14 _ from (by repeat (with_reducible first | assumption | exact Ext.refl _ | refine Ext.drew ?_ | refine Ext.drewN ?_ _ | refine Ext.alloc ?_ _ | (refine Ext.setCell ?_ ?sz _; case sz => (first | (simp; done) | (simp; omega))) | refine Ext.trans ?_ (by assumption))))) (lk.out.ext (show Ext u14 _ from (by repeat (with_reducible first | assumption | exact Ext.refl _ | refine Ext.drew ?_ | refine Ext.drewN ?_ _ | refine Ext.alloc ?_ _ | (refine Ext.setCell ?_ ?sz _; case sz => (first | (simp; done) | (simp; omega))) | refine Ext.trans ?_ (by assumption)))))).mono ?_; rintro e u15 ⟨rfl, hE⟩
          have x : Ext u14 u15 := (by repeat (with_reducible first | assumption | exact Ext.refl _ | refine Ext.drew ?_ | refine Ext.drewN ?_ _ | refine Ext.alloc ?_ _ | (refine Ext.setCell ?_ ?sz _; case sz => (first | (simp; done) | (simp; omega))) | refine Ext.trans ?_ (by assumption)))
          clear r_mt0 l_mt0
          replace mt0 := hid (x.cell mt0.out)
          replace pa0 := hid (x.cell pa0.out)
          replace pa1 := hid (x.cell pa1.out)
          replace pb0 := hid (x.cell pb0.out)
          replace pb1 := hid (x.cell pb1.out)
          replace pc0 := hid (x.cell pc0.out)
          replace pc1 := hid (x.cell pc1.out)
          replace pd0 := hid (x.cell pd0.out)
          replace pd1 := hid (x.cell pd1.out)
          replace lr := hid (lr.out.ext x)
          replace lk := hid (lk.out.ext x)
          replace X := hid (X.out.trans x)
          clear x hE
          have r_mt0 := mt0.out
          have l_mt0 := cell_lt r_mt0
          dsimp only at l_mt0
          have r_pa0 := pa0.out
          have l_pa0 := cell_lt r_pa0
          dsimp only at l_pa0
          have r_pa1 := pa1.out
          have l_pa1 := cell_lt r_pa1
          dsimp only at l_pa1
          have r_pb0 := pb0.out
          have l_pb0 := cell_lt r_pb0
          dsimp only at l_pb0
          have r_pb1 := pb1.out
          have l_pb1 := cell_lt r_pb1
          dsimp only at l_pb1
          have r_pc0 := pc0.out
          have l_pc0 := cell_lt r_pc0
          dsimp only at l_pc0
          have r_pc1 := pc1.out
          have l_pc1 := cell_lt r_pc1
          dsimp only at l_pc1
          have r_pd0 := pd0.out
          have l_pd0 := cell_lt r_pd0
          dsimp only at l_pd0
          have r_pd1 := pd1.out
          have l_pd1 := cell_lt r_pd1
          dsimp only at l_pd1
          go_wp2_with fail
          refine name_c (fun v16 hw => ?_)
          have x : Ext u15 v16 := by rw [hw]; exact (by repeat (with_reducible first | assumption | exact Ext.refl _ | refine Ext.drew ?_ | refine Ext.drewN ?_ _ | refine Ext.alloc ?_ _ | (refine Ext.setCell ?_ ?sz _; case sz => (first | (simp; done) | (simp; omega))) | refine Ext.trans ?_ (by assumption)))
          have px0 := hid (show v16.cell? ⟨u15.heap.size, 0, none⟩ = some (.int .i64 sn) by rw [hw]; simp [go_sem])
          have px1 := hid (show v16.cell? ⟨u15.heap.size, 1, none⟩ = some (.int .i64 sd) by rw [hw]; simp [go_sem])
          clear r_mt0 l_mt0 r_pa0 l_pa0 r_pa1 l_pa1 r_pb0 l_pb0 r_pb1 l_pb1 r_pc0 l_pc0 r_pc1 l_pc1 r_pd0 l_pd0 r_pd1 l_pd1
          replace mt0 := hid (x.cell mt0.out)
          replace pa0 := hid (x.cell pa0.out)
          replace pa1 := hid (x.cell pa1.out)
          replace pb0 := hid (x.cell pb0.out)
          replace pb1 := hid (x.cell pb1.out)
          replace pc0 := hid (x.cell pc0.out)
          replace pc1 := hid (x.cell pc1.out)
          replace pd0 := hid (x.cell pd0.out)
          replace pd1 := hid (x.cell pd1.out)
          replace lr := hid (lr.out.ext x)
          replace lk := hid (lk.out.ext x)
          replace X := hid (X.out.trans x)
          clear x hw
          generalize u15.heap.size = Bpx at *
          refine (works_any _).mono ?_; rintro e u17 ⟨rfl, hE⟩
          have x : Ext v16 u17 := (by repeat (with_reducible first | assumption | exact Ext.refl _ | refine Ext.drew ?_ | refine Ext.drewN ?_ _ | refine Ext.alloc ?_ _ | (refine Ext.setCell ?_ ?sz _; case sz => (first | (simp; done) | (simp; omega))) | refine Ext.trans ?_ (by assumption)))
          replace mt0 := hid (x.cell mt0.out)
          replace pa0 := hid (x.cell pa0.out)
          replace pa1 := hid (x.cell pa1.out)
          replace pb0 := hid (x.cell pb0.out)
          replace pb1 := hid (x.cell pb1.out)
          replace pc0 := hid (x.cell pc0.out)
          replace pc1 := hid (x.cell pc1.out)
          replace pd0 := hid (x.cell pd0.out)
          replace pd1 := hid (x.cell pd1.out)
          replace lr := hid (lr.out.ext x)
          replace lk := hid (lk.out.ext x)
          replace px0 := hid (x.cell px0.out)
          replace px1 := hid (x.cell px1.out)
          replace X := hid (X.out.trans x)
          clear x hE
          go_wp2_with fail
          go_ret
          exact ⟨rfl, X.out⟩
        · have gk1 : (ck == 0) = false := by rw [beq_eq_false_iff_ne]; exact gk
          have gk2 : (ck != 0) = true := by rw [bne, gk1]; rfl
          obtain ⟨z1, z2⟩ := hz gk
          have r_mt0 := mt0.out
          have l_mt0 := cell_lt r_mt0
          dsimp only at l_mt0
          have r_pa0 := pa0.out
          have l_pa0 := cell_lt r_pa0
          dsimp only at l_pa0
          have r_pa1 := pa1.out
          have l_pa1 := cell_lt r_pa1
          dsimp only at l_pa1
          have r_pb0 := pb0.out
          have l_pb0 := cell_lt r_pb0
          dsimp only at l_pb0
          have r_pb1 := pb1.out
          have l_pb1 := cell_lt r_pb1
          dsimp only at l_pb1
          have r_pc0 := pc0.out
          have l_pc0 := cell_lt r_pc0
          dsimp only at l_pc0
          have r_pc1 := pc1.out
          have l_pc1 := cell_lt r_pc1
          dsimp only at l_pc1
          have r_pd0 := pd0.out
          have l_pd0 := cell_lt r_pd0
          dsimp only at l_pd0
          have r_pd1 := pd1.out
          have l_pd1 := cell_lt r_pd1
          dsimp only at l_pd1
          go_wp2_with fail
          refine (works_any _).mono ?_; rintro e u15 ⟨rfl, hE⟩
          have x : Ext u14 u15 := (by repeat (with_reducible first | assumption | exact Ext.refl _ | refine Ext.drew ?_ | refine Ext.drewN ?_ _ | refine Ext.alloc ?_ _ | (refine Ext.setCell ?_ ?sz _; case sz => (first | (simp; done) | (simp; omega))) | refine Ext.trans ?_ (by assumption)))
          clear r_mt0 l_mt0 r_pa0 l_pa0 r_pa1 l_pa1 r_pb0 l_pb0 r_pb1 l_pb1 r_pc0 l_pc0 r_pc1 l_pc1 r_pd0 l_pd0 r_pd1 l_pd1
          replace mt0 := hid (x.cell mt0.out)
          replace pa0 := hid (x.cell pa0.out)
          replace pa1 := hid (x.cell pa1.out)
          replace pb0 := hid (x.cell pb0.out)
          replace pb1 := hid (x.cell pb1.out)
          replace pc0 := hid (x.cell pc0.out)
          replace pc1 := hid (x.cell pc1.out)
          replace pd0 := hid (x.cell pd0.out)
          replace pd1 := hid (x.cell pd1.out)
          replace lr := hid (lr.out.ext x)
          replace lk := hid (lk.out.ext x)
          replace X := hid (X.out.trans x)
          clear x hE
          go_wp2_with fail
          go_ret
          exact ⟨rfl, X.out⟩

end Go.Proofs.Ytommhgcgaclflaa
