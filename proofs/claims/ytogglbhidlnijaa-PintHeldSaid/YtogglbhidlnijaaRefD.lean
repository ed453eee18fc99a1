/- The reference's functions: With, Best, Pools. -/
import Derived.Test.YtogglbhidlnijaaRefC
namespace Go.Proofs.Ytogglbhidlnijaa
set_option linter.unusedVariables false
set_option linter.unusedSimpArgs false
set_option linter.unusedSectionVars false
set_option linter.unnecessarySimpa false
open Go Go.RowKit


theorem frz_alloc {w : World} {o : Obj} {p : Addr} (h : p.block < w.heap.size) : (w.alloc o).frozen? p = w.frozen? p := by
  unfold World.frozen?
  rw [Below.heap_alloc w o p.block h]

/-- The call returns a measure, at new memory. -/
def RetMeas (m : Meas) (w : World) (e : Ending) (w' : World) : Prop :=
  ∃ a cap, e = .returned (.agg #[.int .i64 m.L, .int .i64 m.R, .slice a m.hs.length cap]) ∧ Ints w' a m.hs ∧ Ext w w'

set_option maxHeartbeats 1000000 in
theorem with_any (m : Meas) (a : Option Addr) (cap : Nat) (i : Nat) (y : Int) (w : World) (hI : Ints w a m.hs) (hl : m.hs.length ≤ 1000) (hi : i < m.hs.length) :
    Calls Try.prog 60 #[(.agg #[.int .i64 m.L, .int .i64 m.R, .slice a m.hs.length cap]), .int .i64 i, .int .i64 y] w (RetMeas (wth m i y) w) := by
  have hB := (Ext.refl w).alloc (.cells #[.int .i64 m.L, .int .i64 m.R, .slice a m.hs.length cap] 24)
  go_enter Try.func60, Try.ntmps60
  go_wp2_with fail
  go_region_held3 (fun w' => w'.cell? ⟨w.heap.size, 0, none⟩ = some (.int .i64 m.L) ∧ w'.cell? ⟨w.heap.size, 1, none⟩ = some (.int .i64 m.R) ∧ w'.cell? ⟨w.heap.size, 2, none⟩ = some (.slice a m.hs.length cap) ∧ Ext ((w.alloc (.cells #[.int .i64 m.L, .int .i64 m.R, .slice a m.hs.length cap] 24)).alloc (.cells #[.int .i64 0, .int .i64 0, .slice none 0 0] 24)) w')
    ((repeat' apply And.intro) <;> (first | exact Ext.cell (w := w.alloc (.cells #[.int .i64 m.L, .int .i64 m.R, .slice a m.hs.length cap] 24)) (by repeat (with_reducible first | assumption | exact Ext.refl _ | refine Ext.drew ?_ | refine Ext.drewN ?_ _ | refine Ext.alloc ?_ _ | (refine Ext.setCell ?_ ?sz _; case sz => (first | (simp; done) | (simp; omega))) | refine Ext.trans ?_ (by assumption))) (by simp [go_sem]; done) | exact (by repeat (with_reducible first | assumption | exact Ext.refl _ | refine Ext.drew ?_ | refine Ext.drewN ?_ _ | refine Ext.alloc ?_ _ | (refine Ext.setCell ?_ ?sz _; case sz => (first | (simp; done) | (simp; omega))) | refine Ext.trans ?_ (by assumption)))))
    (first | (rw [if_pos (by rfl)]; refine appFreshI_wp _ _ _ rfl 2 Try.underlying22 elemI64 m.hs _ rfl a cap rfl ?c2 (by omega) (by omega) ?_; (case c2 => exact (by first | assumption | exact Ints.ext hI (by repeat (with_reducible first | assumption | exact Ext.refl _ | refine Ext.drew ?_ | refine Ext.drewN ?_ _ | refine Ext.alloc ?_ _ | (refine Ext.setCell ?_ ?sz _; case sz => (first | (simp; done) | (simp; omega))) | refine Ext.trans ?_ (by assumption))))); intro cp w3 ho3 hE; obtain ⟨r1, r2, r3⟩ := hE.rules; simp at r3))
  all_goals
    simp at ho3
    obtain ⟨f1, f2, -, f3⟩ := ho3.facts hi
    have q0 := hE.cell (p := ⟨w.heap.size + 1, 0, none⟩) (v := .int .i64 0) (by simp [go_sem]); have q1 := hE.cell (p := ⟨w.heap.size + 1, 1, none⟩) (v := .int .i64 0) (by simp [go_sem]); have q2 := hE.cell (p := ⟨w.heap.size + 1, 2, none⟩) (v := .slice none 0 0) (by simp [go_sem]); have q3 : w3.frozen? ⟨w.heap.size + 1, 0, none⟩ = false := (hE.frozen (by simp)).trans (by simp [go_sem]); have q4 : w3.frozen? ⟨w.heap.size + 1, 1, none⟩ = false := (hE.frozen (by simp)).trans (by simp [go_sem]); have q5 : w3.frozen? ⟨w.heap.size + 1, 2, none⟩ = false := (hE.frozen (by simp)).trans (by simp [go_sem])
    clear r1 r2
    have z0 : w.heap.size < w3.heap.size := by omega
    have z1 : w.heap.size + 1 < w3.heap.size := by omega
    have z2 : w.heap.size + 1 + 1 < w3.heap.size := by omega
  · go_wp2_with fail
    refine bodyPost_ret (v := .agg #[.int .i64 m.L, .int .i64 m.R, .slice (some ⟨w.heap.size + 1 + 1 + 1, 0, none⟩) m.hs.length cp]) ?_ rfl ?_
    · clear hE
      simp [results, Try.results60, go_sem, *]
    · obtain ⟨aa, cc, e1, e2⟩ := ((ho3).set (i := i) y).slice
      cases e1
      refine ⟨some ⟨w.heap.size + 1 + 1 + 1, 0, none⟩, cp, by simp [wth], ?_, (by repeat (with_reducible first | assumption | exact Ext.refl _ | refine Ext.drew ?_ | refine Ext.drewN ?_ _ | refine Ext.alloc ?_ _ | (refine Ext.setCell ?_ ?sz _; case sz => (first | (simp; done) | (simp; omega))) | refine Ext.trans ?_ (by assumption)))⟩
      repeat (first | (with_reducible refine Ints.alloc ?_ _) | (with_reducible refine Ints.drew ?_) | (with_reducible refine Ints.put ?_ ?ne _; case ne => (simp; done)))
      exact e2
  · have q0 := hE.cell (p := ⟨w.heap.size + 1 + 1 + 1, 0, none⟩) (v := .int .i64 0) (by simp [go_sem]); have q1 := hE.cell (p := ⟨w.heap.size + 1 + 1 + 1, 1, none⟩) (v := .int .i64 0) (by simp [go_sem]); have q2 := hE.cell (p := ⟨w.heap.size + 1 + 1 + 1, 2, none⟩) (v := .slice none 0 0) (by simp [go_sem]); have q3 : w3.frozen? ⟨w.heap.size + 1 + 1 + 1, 0, none⟩ = false := (hE.frozen (by simp)).trans (by simp [go_sem]); have q4 : w3.frozen? ⟨w.heap.size + 1 + 1 + 1, 1, none⟩ = false := (hE.frozen (by simp)).trans (by simp [go_sem]); have q5 : w3.frozen? ⟨w.heap.size + 1 + 1 + 1, 2, none⟩ = false := (hE.frozen (by simp)).trans (by simp [go_sem])
    go_wp2_with fail
    refine bodyPost_ret (v := .agg #[.int .i64 m.L, .int .i64 m.R, .slice (some ⟨w.heap.size + 1 + 1 + 1 + 1, 0, none⟩) m.hs.length cp]) ?_ rfl ?_
    · clear hE
      simp [results, Try.results60, go_sem, *]
    · obtain ⟨aa, cc, e1, e2⟩ := ((((ho3.put (p := ⟨w.heap.size + 1 + 1 + 1, 0, none⟩) (by simp) (.int .i64 m.L)).put (p := ⟨w.heap.size + 1 + 1 + 1, 1, none⟩) (by simp) (.int .i64 m.R)).put (p := ⟨w.heap.size + 1 + 1 + 1, 2, none⟩) (by simp) (.slice (some ⟨w.heap.size + 1 + 1 + 1 + 1, 0, none⟩) m.hs.length cp)).set (i := i) y).slice
      cases e1
      refine ⟨some ⟨w.heap.size + 1 + 1 + 1 + 1, 0, none⟩, cp, by simp [wth], ?_, (by repeat (with_reducible first | assumption | exact Ext.refl _ | refine Ext.drew ?_ | refine Ext.drewN ?_ _ | refine Ext.alloc ?_ _ | (refine Ext.setCell ?_ ?sz _; case sz => (first | (simp; done) | (simp; omega))) | refine Ext.trans ?_ (by assumption)))⟩
      repeat (first | (with_reducible refine Ints.alloc ?_ _) | (with_reducible refine Ints.drew ?_) | (with_reducible refine Ints.put ?_ ?ne _; case ne => (simp; done)))
      exact e2
  · have q0 := hE.cell (p := ⟨w.heap.size + 1 + 1, 0, none⟩) (v := .int .i64 0) (by simp [go_sem]); have q1 := hE.cell (p := ⟨w.heap.size + 1 + 1, 1, none⟩) (v := .int .i64 0) (by simp [go_sem]); have q2 := hE.cell (p := ⟨w.heap.size + 1 + 1, 2, none⟩) (v := .slice none 0 0) (by simp [go_sem]); have q3 : w3.frozen? ⟨w.heap.size + 1 + 1, 0, none⟩ = false := (hE.frozen (by simp)).trans (by simp [go_sem]); have q4 : w3.frozen? ⟨w.heap.size + 1 + 1, 1, none⟩ = false := (hE.frozen (by simp)).trans (by simp [go_sem]); have q5 : w3.frozen? ⟨w.heap.size + 1 + 1, 2, none⟩ = false := (hE.frozen (by simp)).trans (by simp [go_sem])
    go_wp2_with fail
    refine bodyPost_ret (v := .agg #[.int .i64 m.L, .int .i64 m.R, .slice (some ⟨w.heap.size + 1 + 1 + 1 + 1, 0, none⟩) m.hs.length cp]) ?_ rfl ?_
    · clear hE
      simp [results, Try.results60, go_sem, *]
    · obtain ⟨aa, cc, e1, e2⟩ := ((((ho3.put (p := ⟨w.heap.size + 1 + 1, 0, none⟩) (by simp) (.int .i64 m.L)).put (p := ⟨w.heap.size + 1 + 1, 1, none⟩) (by simp) (.int .i64 m.R)).put (p := ⟨w.heap.size + 1 + 1, 2, none⟩) (by simp) (.slice (some ⟨w.heap.size + 1 + 1 + 1 + 1, 0, none⟩) m.hs.length cp)).set (i := i) y).slice
      cases e1
      refine ⟨some ⟨w.heap.size + 1 + 1 + 1 + 1, 0, none⟩, cp, by simp [wth], ?_, (by repeat (with_reducible first | assumption | exact Ext.refl _ | refine Ext.drew ?_ | refine Ext.drewN ?_ _ | refine Ext.alloc ?_ _ | (refine Ext.setCell ?_ ?sz _; case sz => (first | (simp; done) | (simp; omega))) | refine Ext.trans ?_ (by assumption)))⟩
      repeat (first | (with_reducible refine Ints.alloc ?_ _) | (with_reducible refine Ints.drew ?_) | (with_reducible refine Ints.put ?_ ?ne _; case ne => (simp; done)))
      exact e2

end Go.Proofs.Ytogglbhidlnijaa
