/- The program's Best, with its closures. -/
import Derived.Test.YtogglbhidlnijaaPinF
import Derived.Lib.SliceRun
namespace Go.Proofs.Ytogglbhidlnijaa
set_option linter.unusedVariables false
set_option linter.unusedSimpArgs false
set_option linter.unusedSectionVars false
set_option linter.unnecessarySimpa false
open Go Go.RowKit

/-- The call returns a new slice that reads as l. -/
def RetFresh (l : List Int) (w : World) (e : Ending) (w' : World) : Prop :=
  ∃ b cap, e = .returned (.slice (some ⟨b, 0, none⟩) l.length cap) ∧ OwnI w' w.heap.size 2 (.slice (some ⟨b, 0, none⟩) l.length cap) l ∧ Ext w w'

set_option maxHeartbeats 400000 in
theorem clone_any (a : Option Addr) (cap : Nat) (l : List Int) (w : World) (hI : Ints w a l) (h0 : 0 < l.length) (hl : l.length ≤ 1000) :
    Calls Try.prog 80 #[.slice a l.length cap] w (RetFresh l w) := by
  obtain ⟨b, off, rfl, hb, hc⟩ := hI.at h0
  have he := fun w => Lib.run_eql_slice_nil (P := Try.prog) w 22 2 (some ⟨b, off, none⟩) l.length cap 0 0 Try.underlying22
  clear hc
  go_enter Try.func80, Try.ntmps80
  go_wp2_with (at_builtin; refine wpList_plain rfl fun K hK => appFreshI_wp _ _ 22 rfl 2 Try.underlying22 elemI64p l _ rfl _ cap rfl ?ca h0 (by omega) fun cp w' ho hE => hK _ _ ?_)
  case ca => exact hI.ext (by repeat (with_reducible first | assumption | exact Ext.refl _ | refine Ext.drew ?_ | refine Ext.drewN ?_ _ | refine Ext.alloc ?_ _ | (refine Ext.setCell ?_ ?sz _; case sz => (first | (simp; done) | (simp; omega))) | refine Ext.trans ?_ (by assumption)))
  simp at ho
  go_ret
  exact ⟨w.heap.size + 1, cp, rfl, ho.mono (by omega), (by repeat (with_reducible first | assumption | exact Ext.refl _ | refine Ext.drew ?_ | refine Ext.drewN ?_ _ | refine Ext.alloc ?_ _ | (refine Ext.setCell ?_ ?sz _; case sz => (first | (simp; done) | (simp; omega))) | refine Ext.trans ?_ (by assumption)))⟩


set_option maxHeartbeats 1000000 in
theorem best1_any (m : Meas) (v : Vld m) (a : Option Addr) (cap : Nat) (t : Int) (h0 : -20 ≤ t) (h1 : t ≤ 20) (mb tb : Nat) (i : Nat) (hi : i < m.hs.length) (w : World) (hI : Ints w a m.hs)
    (c0 : w.cell? ⟨mb, 0, none⟩ = some (.int .i64 m.L)) (c1 : w.cell? ⟨mb, 1, none⟩ = some (.int .i64 m.R)) (c2 : w.cell? ⟨mb, 2, none⟩ = some (.slice a m.hs.length cap)) (ct : w.cell? ⟨tb, 0, none⟩ = some (.int .i64 t)) :
    Calls Try.prog 79 #[.int .i64 i, .pointer (some ⟨mb, 0, none⟩), .pointer (some ⟨tb, 0, none⟩)] w fun e w' => e = .returned (.int .i64 (out0 m t i)) ∧ Ext w w' := by
  have n8 := v.n8
  have n1 := v.n1
  have lmb := cell_lt c0
  have ltb := cell_lt ct
  dsimp only at lmb ltb
  go_enter Try.func79, Try.ntmps79
  go_wp2_with fail
  go_region_held3 (fun w' => w'.cell? ⟨mb, 0, none⟩ = some (.int .i64 m.L) ∧ w'.cell? ⟨mb, 1, none⟩ = some (.int .i64 m.R) ∧ w'.cell? ⟨mb, 2, none⟩ = some (.slice a m.hs.length cap) ∧ Ints w' a m.hs ∧ Ext w w')
    (((try go_split_ands); (repeat' apply And.intro) <;> (first | exact Ext.cell (w := w) (by repeat (with_reducible first | assumption | exact Ext.refl _ | refine Ext.drew ?_ | refine Ext.drewN ?_ _ | refine Ext.alloc ?_ _ | (refine Ext.setCell ?_ ?sz _; case sz => (first | (simp; done) | (simp; omega))) | refine Ext.trans ?_ (by assumption))) (by assumption) | exact Ints.ext hI (by repeat (with_reducible first | assumption | exact Ext.refl _ | refine Ext.drew ?_ | refine Ext.drewN ?_ _ | refine Ext.alloc ?_ _ | (refine Ext.setCell ?_ ?sz _; case sz => (first | (simp; done) | (simp; omega))) | refine Ext.trans ?_ (by assumption))) | exact (by repeat (with_reducible first | assumption | exact Ext.refl _ | refine Ext.drew ?_ | refine Ext.drewN ?_ _ | refine Ext.alloc ?_ _ | (refine Ext.setCell ?_ ?sz _; case sz => (first | (simp; done) | (simp; omega))) | refine Ext.trans ?_ (by assumption))))))
    (first | (go_at_call 80; go_split_ands; refine (clone_any a cap m.hs _ (by assumption) (by omega) (by omega)).mono ?_; rintro e w3 ⟨bb, cp, rfl, ho3, hE⟩; obtain ⟨r1, r2, r3⟩ := hE.rules; simp at r3))
  all_goals
    clear r1 r2
    have hEw : Ext w w3 := (by repeat (with_reducible first | assumption | exact Ext.refl _ | refine Ext.drew ?_ | refine Ext.drewN ?_ _ | refine Ext.alloc ?_ _ | (refine Ext.setCell ?_ ?sz _; case sz => (first | (simp; done) | (simp; omega))) | refine Ext.trans ?_ (by assumption)))
    have lw := Ext.size hEw
    simp at ho3
    obtain ⟨f1, f2, -, f3⟩ := ho3.facts hi
    have f4 := (ho3.block bb rfl).1
    have ct3 := hEw.cell ct
    have z1 : mb < w3.heap.size := by omega
    have z2 : tb < w3.heap.size := by omega
    have y1 : mb ≠ bb := by omega
    have y2 : tb ≠ bb := by omega
  · go_wp2_with fail
    have hc := fun W hW => newTable_any (wth m i 0) (wth_vld v i (Int.le_refl _) (by omega)) (some ⟨bb, 0, none⟩) cp t W hW h0 h1
    simp only [wth_len, wth_L, wth_R] at hc
    refine (hc _ ?ha).mono ?_
    case ha =>
      obtain ⟨aa, cc, e1, e2⟩ := ((ho3).set (i := i) 0).slice
      cases e1
      repeat (first | (with_reducible refine Ints.alloc ?_ _) | (with_reducible refine Ints.drew ?_) | (with_reducible refine Ints.put ?_ ?ne _; case ne => (simp; omega)))
      exact e2
    rintro e w4 ⟨tt, rfl, hT, hE4⟩
    go_wp2_with fail
    refine (holdsT_any _ (wth_vld v i (Int.le_refl _) (by omega)) tt _ cp t _ hT h0 h1).mono ?_
    rintro e w5 ⟨rfl, rfl⟩
    go_wp2_with fail
    go_ret
    exact ⟨rfl, (by repeat (with_reducible first | assumption | exact Ext.refl _ | refine Ext.drew ?_ | refine Ext.drewN ?_ _ | refine Ext.alloc ?_ _ | (refine Ext.setCell ?_ ?sz _; case sz => (first | (simp; done) | (simp; omega))) | refine Ext.trans ?_ (by assumption)))⟩

  · have q0 := hE.cell (p := ⟨w.heap.size, 0, none⟩) (v := .int .i64 0) (by simp [go_sem]); have q1 := hE.cell (p := ⟨w.heap.size, 1, none⟩) (v := .int .i64 0) (by simp [go_sem]); have q2 := hE.cell (p := ⟨w.heap.size, 2, none⟩) (v := .slice none 0 0) (by simp [go_sem]); have q3 : w3.frozen? ⟨w.heap.size, 0, none⟩ = false := (hE.frozen (by simp)).trans (by simp [go_sem]); have q4 : w3.frozen? ⟨w.heap.size, 1, none⟩ = false := (hE.frozen (by simp)).trans (by simp [go_sem]); have q5 : w3.frozen? ⟨w.heap.size, 2, none⟩ = false := (hE.frozen (by simp)).trans (by simp [go_sem])
    have y3 : w.heap.size ≠ bb := by omega
    have y4 : w.heap.size < w3.heap.size := by omega
    go_wp2_with fail
    have hc := fun W hW => newTable_any (wth m i 0) (wth_vld v i (Int.le_refl _) (by omega)) (some ⟨bb, 0, none⟩) cp t W hW h0 h1
    simp only [wth_len, wth_L, wth_R] at hc
    refine (hc _ ?hb).mono ?_
    case hb =>
      obtain ⟨aa, cc, e1, e2⟩ := ((((ho3.put (p := ⟨w.heap.size, 0, none⟩) (by simp; omega) (.int .i64 m.L)).put (p := ⟨w.heap.size, 1, none⟩) (by simp; omega) (.int .i64 m.R)).put (p := ⟨w.heap.size, 2, none⟩) (by simp; omega) (.slice (some ⟨bb, 0, none⟩) m.hs.length cp)).set (i := i) 0).slice
      cases e1
      repeat (first | (with_reducible refine Ints.alloc ?_ _) | (with_reducible refine Ints.drew ?_) | (with_reducible refine Ints.put ?_ ?ne _; case ne => (simp; omega)))
      exact e2
    rintro e w4 ⟨tt, rfl, hT, hE4⟩
    go_wp2_with fail
    refine (holdsT_any _ (wth_vld v i (Int.le_refl _) (by omega)) tt _ cp t _ hT h0 h1).mono ?_
    rintro e w5 ⟨rfl, rfl⟩
    go_wp2_with fail
    go_ret
    exact ⟨rfl, (by repeat (with_reducible first | assumption | exact Ext.refl _ | refine Ext.drew ?_ | refine Ext.drewN ?_ _ | refine Ext.alloc ?_ _ | (refine Ext.setCell ?_ ?sz _; case sz => (first | (simp; done) | (simp; omega))) | refine Ext.trans ?_ (by assumption)))⟩


end Go.Proofs.Ytogglbhidlnijaa
