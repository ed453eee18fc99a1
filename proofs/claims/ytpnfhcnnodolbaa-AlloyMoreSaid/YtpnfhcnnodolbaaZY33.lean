/- Texts of one proof, laid together: LaG. -/
import Derived.Test.YtpnfhcnnodolbaaZY10
import Derived.Test.YtpnfhcnnodolbaaZY32
set_option linter.unusedVariables false
set_option linter.unusedSimpArgs false
set_option linter.unusedSectionVars false
set_option linter.unnecessarySimpa false
set_option maxRecDepth 100000
namespace Go.Proofs.Ytpnfhcnnodolbaa
open Go Go.RowKit Game
theorem greatL_any (a : Option Addr) (cap n : Nat) (a2 : Option Addr) (c2 k : Nat) (hn : n ≤ 9223372036854775807) (hk : k ≤ 9223372036854775807) (w : World) :
 Calls Try.prog 17 #[.slice a n cap, .slice a2 k c2] w fun e w' => e = .returned (.bool (decide (12 < n) || decide (12 < k))) ∧ Ext w w' := by
 by_cases g : 12 < n
 ·have gI : (12 : Int) < (n : Int) := by omega
  have H := hid (show (decide (12 < n) || decide (12 < k)) = true by simp [g])
  go_enter Try.func17, Try.ntmps17
  go_wp2_with fail
  go_ret
  first | exact ⟨ret_bool H.out.symm, exE⟩ | exact ⟨rfl, exE⟩
 ·have gI : ¬ (12 : Int) < (n : Int) := by omega
  by_cases g2 : 12 < k
  ·have gI2 : (12 : Int) < (k : Int) := by omega
   have H := hid (show (decide (12 < n) || decide (12 < k)) = true by simp [g2])
   go_enter Try.func17, Try.ntmps17
   go_wp2_with fail
   go_ret
   first | exact ⟨ret_bool H.out.symm, exE⟩ | exact ⟨rfl, exE⟩
  ·have gI2 : ¬ (12 : Int) < (k : Int) := by omega
   have H := hid (show (decide (12 < n) || decide (12 < k)) = false by simp [g, g2])
   go_enter Try.func17, Try.ntmps17
   go_wp2_with fail
   go_ret
   first | exact ⟨ret_bool H.out.symm, exE⟩ | exact ⟨rfl, exE⟩
set_option maxHeartbeats 800000 in
theorem fineL_any (l : List Met) (q : FitM l) (hl : l.length ≤ 9223372036854775807) (a : Option Addr) (cap : Nat) (u c : Int) (w : World) (hM : Mts w a l) :
 Calls Try.prog 42 #[.slice a l.length cap, (.agg #[.int .i64 (u), .int .i64 (c)])] w fun e w' => e = .returned (.bool (decide (chkB l u c = 0))) ∧ Ext w w' := by
 have hg := hid (fun W => greatL_any a cap l.length none 0 0 hl (by decide) W)
 by_cases g : 12 < l.length
 ·rw [show (decide (12 < l.length) || decide (12 < 0)) = true by simp [g]] at hg
  have H := hid (show decide (chkB l u c = 0) = false by
   rw [decide_eq_false_iff_not]
   intro h
   have := (chkB_ok h).1.n6
   omega)
  replace g := hid g
  go_enter Try.func42, Try.ntmps42
  go_wp2_with fail
  refine (hg.out _).mono ?_; rintro e w1 ⟨rfl, hE⟩
  have x1 : Ext w w1 := exE
  go_wp2_with fail
  go_ret
  exact ⟨ret_bool H.out.symm, exE⟩
 rw [show (decide (12 < l.length) || decide (12 < 0)) = false by simp [g]] at hg
 have hcm := hid (fun W (y : Ext w W) => checkMetalsR_any l q (by omega) a cap W (hM.ext y))
 by_cases g1 : chkM l = 0
 ·rw [g1] at hcm
  have hct := hid (fun W => checkTouchR_any u c W)
  have H := hid (show decide (chkB l u c = 0) = decide (chkU u c = 0) by unfold chkB; rw [if_pos g1])
  obtain ⟨E, hE⟩ : ∃ E, chkU u c = E := ⟨_, rfl⟩
  rw [hE] at hct H
  replace g := hid g
  replace g1 := hid g1
  clear hE q hM
  have H2 := hid (show (E == 0) = decide (E = 0) from rfl)
  go_enter Try.func42, Try.ntmps42
  go_wp2_with fail
  refine (hg.out _).mono ?_; rintro e w1 ⟨rfl, hE⟩
  have t0 := hE.cell (p := ⟨w.heap.size, 0, none⟩) (v := .int .i64 u) (by simp [go_sem])
  have t1 := hE.cell (p := ⟨w.heap.size, 1, none⟩) (v := .int .i64 c) (by simp [go_sem])
  have x1 := hid (show Ext w w1 from exE)
  clear hE
  go_wp2_with fail
  refine (hcm.out _ (by have := x1.out; exact exE)).mono ?_; rintro e w2 ⟨rfl, hE⟩
  replace t0 := hE.cell t0
  replace t1 := hE.cell t1
  have x2 := hid (show Ext w w2 by have := x1.out; exact exE)
  clear hE
  go_wp2_with fail
  refine (hct.out _).mono ?_; rintro e w3 ⟨rfl, hE⟩
  have x3 := hid (show Ext w w3 by have := x2.out; exact exE)
  go_wp2_with fail
  go_ret
  exact ⟨ret_bool (by rw [H.out, ← H2.out]), x3.out⟩
 ·have H := hid (show decide (chkB l u c = 0) = false by rw [decide_eq_false_iff_not]; unfold chkB; rw [if_neg g1]; exact g1)
  have g2 : (chkM l == 0) = false := by rw [beq_eq_false_iff_ne]; exact g1
  obtain ⟨E, hE⟩ : ∃ E, chkM l = E := ⟨_, rfl⟩
  rw [hE] at hcm g2
  replace g := hid g
  replace g1 := hid g1
  clear hE q hM
  go_enter Try.func42, Try.ntmps42
  go_wp2_with fail
  refine (hg.out _).mono ?_; rintro e w1 ⟨rfl, hE⟩
  have x1 := hid (show Ext w w1 from exE)
  clear hE
  go_wp2_with fail
  refine (hcm.out _ (by have := x1.out; exact exE)).mono ?_; rintro e w2 ⟨rfl, hE⟩
  have x2 := hid (show Ext w w2 by have := x1.out; exact exE)
  go_wp2_with fail
  go_ret
  exact ⟨ret_bool H.out.symm, x2.out⟩
end Go.Proofs.Ytpnfhcnnodolbaa
