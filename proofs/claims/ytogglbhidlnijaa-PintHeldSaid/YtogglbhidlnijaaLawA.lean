/- The laws' small functions. -/
import Derived.Test.YtogglbhidlnijaaPinP
namespace Go.Proofs.Ytogglbhidlnijaa
set_option linter.unusedVariables false
set_option linter.unusedSimpArgs false
set_option linter.unusedSectionVars false
set_option linter.unnecessarySimpa false
open Go Go.RowKit
set_option maxRecDepth 100000

theorem longs_any (v : Value) (w : World) : Calls Try.prog 59 #[v] w fun e w' => e = .returned v ∧ w = w' := by
  go_enter Try.func59, Try.ntmps59
  go_wp2_with fail
  go_ret
  exact ⟨rfl, rfl⟩
theorem pairs_any (v : Value) (w : World) : Calls Try.prog 66 #[v] w fun e w' => e = .returned v ∧ w = w' := by
  go_enter Try.func66, Try.ntmps66
  go_wp2_with fail
  go_ret
  exact ⟨rfl, rfl⟩
theorem to_any (x y : Int) (w : World) : Calls Try.prog 63 #[.int .i64 x, .int .i64 y] w fun e w' => e = .returned (.agg #[.int .i64 x, .int .i64 y]) ∧ Ext w w' := by
  go_enter Try.func63, Try.ntmps63
  go_wp2_with fail
  refine bodyPost_ret (v := .agg #[.int .i64 x, .int .i64 y]) ?_ rfl ?_
  · simp [results, Try.results63, go_sem]
  · exact ⟨rfl, (by repeat (with_reducible first | assumption | exact Ext.refl _ | refine Ext.drew ?_ | refine Ext.drewN ?_ _ | refine Ext.alloc ?_ _ | (refine Ext.setCell ?_ ?sz _; case sz => (first | (simp; done) | (simp; omega))) | refine Ext.trans ?_ (by assumption)))⟩
theorem measureL_any (x y : Int) (a : Option Addr) (n cap : Nat) (w : World) : Calls Try.prog 58 #[.int .i64 x, .int .i64 y, .slice a n cap] w fun e w' => e = .returned (.agg #[.int .i64 x, .int .i64 y, .slice a n cap]) ∧ Ext w w' := by
  go_enter Try.func58, Try.ntmps58
  go_wp2_with fail
  refine bodyPost_ret (v := .agg #[.int .i64 x, .int .i64 y, .slice a n cap]) ?_ rfl ?_
  · simp [results, Try.results58, go_sem]
  · exact ⟨rfl, (by repeat (with_reducible first | assumption | exact Ext.refl _ | refine Ext.drew ?_ | refine Ext.drewN ?_ _ | refine Ext.alloc ?_ _ | (refine Ext.setCell ?_ ?sz _; case sz => (first | (simp; done) | (simp; omega))) | refine Ext.trans ?_ (by assumption)))⟩

theorem great_any (m : Meas) (a : Option Addr) (cap : Nat) (w : World) (hl : m.hs.length ≤ 9223372036854775807) : Calls Try.prog 17 #[(.agg #[.int .i64 m.L, .int .i64 m.R, .slice a m.hs.length cap])] w fun e w' => e = .returned (.bool (decide (14 < m.hs.length))) ∧ Ext w w' := by
  by_cases g : 14 < m.hs.length
  all_goals
    go_enter Try.func17, Try.ntmps17
    go_wp2_with fail
    go_ret
    exact ⟨ret_bool (by first | (simp [g]; omega) | simp [g]), (by repeat (with_reducible first | assumption | exact Ext.refl _ | refine Ext.drew ?_ | refine Ext.drewN ?_ _ | refine Ext.alloc ?_ _ | (refine Ext.setCell ?_ ?sz _; case sz => (first | (simp; done) | (simp; omega))) | refine Ext.trans ?_ (by assumption)))⟩
theorem wide_any (d : Dent) (a : Option Addr) (cap : Nat) (w : World) (hl : d.rs.length ≤ 9223372036854775807) : Calls Try.prog 39 #[(.agg #[.int .i64 d.L, .int .i64 d.R, .slice a d.rs.length cap])] w fun e w' => e = .returned (.bool (decide (10 < d.rs.length))) ∧ Ext w w' := by
  by_cases g : 10 < d.rs.length
  all_goals
    go_enter Try.func39, Try.ntmps39
    go_wp2_with fail
    go_ret
    exact ⟨ret_bool (by first | (simp [g]; omega) | simp [g]), (by repeat (with_reducible first | assumption | exact Ext.refl _ | refine Ext.drew ?_ | refine Ext.drewN ?_ _ | refine Ext.alloc ?_ _ | (refine Ext.setCell ?_ ?sz _; case sz => (first | (simp; done) | (simp; omega))) | refine Ext.trans ?_ (by assumption)))⟩

set_option maxHeartbeats 400000 in
theorem longsEq_any (a b : Option Addr) (c1 c2 : Nat) (l : List Int) (w : World) (hI : Ints w a l) (hJ : Ints w b l) (hl : l.length ≤ 1099511627776) :
    Calls Try.prog 29 #[.slice a l.length c1, .slice b l.length c2] w fun e w' => e = .returned (.bool true) ∧ Ext w w' := by
  have HI := hid hI
  have HJ := hid hJ
  clear hI hJ
  go_enter Try.func29, Try.ntmps29
  go_wp2_with fail
  go_loopw [5] (fun i wr => ∃ k : Nat, k ≤ l.length ∧ i = .int .i64 k ∧ Ext w wr) (fun i _ => (l.length - intOf i).toNat)
  case atStart => exact ⟨0, by omega, rfl, Ext.refl _⟩
  case round =>
    obtain ⟨k, hk, rfl, hw⟩ := hrel
    by_cases hlt : k < l.length
    · obtain ⟨b1, o1, rfl, _, z1⟩ := HI.out.at (by omega)
      obtain ⟨b2, o2, rfl, _, z2⟩ := HJ.out.at (by omega)
      have z1 := hw.cell (z1 k hlt)
      have z2 := hw.cell (z2 k hlt)
      have hb : (nth l k != nth l k) = false := by simp
      generalize nth l k = x at *
      go_wp2_with fail
      go_quiet (fail)
      go_wp2_with fail
      go_roundw
      case rel => exact ⟨k + 1, by omega, by go_num, (by repeat (with_reducible first | assumption | exact Ext.refl _ | refine Ext.drew ?_ | refine Ext.drewN ?_ _ | refine Ext.alloc ?_ _ | (refine Ext.setCell ?_ ?sz _; case sz => (first | (simp; done) | (simp; omega))) | refine Ext.trans ?_ (by assumption)))⟩
      case measure => simp [intOf]; omega
    · go_wp2_with fail
      go_ret
      exact ⟨rfl, (by repeat (with_reducible first | assumption | exact Ext.refl _ | refine Ext.drew ?_ | refine Ext.drewN ?_ _ | refine Ext.alloc ?_ _ | (refine Ext.setCell ?_ ?sz _; case sz => (first | (simp; done) | (simp; omega))) | refine Ext.trans ?_ (by assumption)))⟩

theorem neqPair (x y : Int) (w : World) : (binOp .neq 70 (.agg #[.int .i64 x, .int .i64 y]) (.agg #[.int .i64 x, .int .i64 y])).run Try.prog w = .ok (.bool false) w := by
  have hi : ∃ i, Try.prog.info? 3 = some i ∧ i.size = 1 := by
    have h : (Try.prog.info? 3).map (fun i => i.size) = some 1 := by kernel_rfl
    cases e : Try.prog.info? 3 with
    | none => simp [e] at h
    | some i => exact ⟨i, rfl, by simpa [e] using h⟩
  obtain ⟨i, hi, hs⟩ := hi
  have h := run_eqArr (P := Try.prog) w Try.underlying70 Try.underlying3 hi hs #[.int .i64 x, .int .i64 y] #[.int .i64 x, .int .i64 y] (fun j => nth [x, y] j) (fun j => nth [x, y] j) (fun j hj => by
    have : j = 0 ∨ j = 1 := by omega
    rcases this with rfl | rfl <;> exact ⟨rfl, rfl⟩)
  have e : ((List.range 2).all fun j => nth [x, y] j == nth [x, y] j) = true := by simp
  rw [e] at h
  simp [binOp, Op.equal, Op.maxDepth, h]
theorem eqPair (x y : Int) (w : World) : (binOp .eql 52 (.agg #[.int .i64 x, .int .i64 y]) (.agg #[.int .i64 x, .int .i64 y])).run Try.prog w = .ok (.bool true) w := by
  have u3 := Try.underlying2
  have a3 := Try.isAgg2
  have z3 := Try.sizeOf2
  have hS : Try.prog.underlying 52 = some (.struct (Try.prog.fieldsOf 52)) := by kernel_rfl
  rw [run_eql_struct, show (10000 : Nat) = 9999 + 1 from rfl, run_equalIn_agg w 9999 52 _ _ hS (by kernel_rfl)]
  simp only [Program.fieldsOf, Try.underlying52]
  go_simp
  try simp

set_option maxHeartbeats 400000 in
theorem pairsEq_any (a b : Option Addr) (c1 c2 : Nat) (l : List (Int × Int)) (w : World) (hI : Prs w a l) (hJ : Prs w b l) (hl : l.length ≤ 1099511627776) :
    Calls Try.prog 30 #[.slice a l.length c1, .slice b l.length c2] w fun e w' => e = .returned (.bool true) ∧ Ext w w' := by
  have HI := hid hI
  have HJ := hid hJ
  clear hI hJ
  have hnp := neqPair
  go_enter Try.func30, Try.ntmps30
  go_wp2_with fail
  go_loopw [5] (fun i wr => ∃ k : Nat, k ≤ l.length ∧ i = .int .i64 k ∧ Ext w wr) (fun i _ => (l.length - intOf i).toNat)
  case atStart => exact ⟨0, by omega, rfl, Ext.refl _⟩
  case round =>
    obtain ⟨k, hk, rfl, hw⟩ := hrel
    by_cases hlt : k < l.length
    · obtain ⟨b1, o1, rfl, _, z1⟩ := HI.out.at (by omega)
      obtain ⟨b2, o2, rfl, _, z2⟩ := HJ.out.at (by omega)
      have y1 := hw.cell (z1 k hlt).1
      have y2 := hw.cell (z2 k hlt).1
      have y3 := hw.cell (z1 k hlt).2
      have y4 := hw.cell (z2 k hlt).2
      have hnq := neqPair (pa l k) (pb l k)
      clear hnp z1 z2
      generalize pa l k = x at *
      generalize pb l k = y at *
      go_wp2_with fail
      go_quiet (fail)
      go_wp2_with fail
      go_roundw
      case rel => exact ⟨k + 1, by omega, by go_num, (by repeat (with_reducible first | assumption | exact Ext.refl _ | refine Ext.drew ?_ | refine Ext.drewN ?_ _ | refine Ext.alloc ?_ _ | (refine Ext.setCell ?_ ?sz _; case sz => (first | (simp; done) | (simp; omega))) | refine Ext.trans ?_ (by assumption)))⟩
      case measure => simp [intOf]; omega
    · go_wp2_with fail
      go_ret
      exact ⟨rfl, (by repeat (with_reducible first | assumption | exact Ext.refl _ | refine Ext.drew ?_ | refine Ext.drewN ?_ _ | refine Ext.alloc ?_ _ | (refine Ext.setCell ?_ ?sz _; case sz => (first | (simp; done) | (simp; omega))) | refine Ext.trans ?_ (by assumption)))⟩

/-- The chapter's examples. -/
def mM : Meas := ⟨5, 4, [0, 3, 0]⟩
def dD : Dent := ⟨5, 4, [(0, 1), (2, 4), (0, 0)]⟩

end Go.Proofs.Ytogglbhidlnijaa
