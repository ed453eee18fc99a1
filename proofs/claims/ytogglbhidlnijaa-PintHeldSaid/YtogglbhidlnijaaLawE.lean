/- A truth by numbers, walked. -/
import Derived.Test.YtogglbhidlnijaaLawA
import Derived.Test.YtogglbhidlnijaaPlainH
import Derived.Test.YtogglbhidlnijaaMemH
import Derived.IntWalk
import Derived.Deep.DeepCutAuto
import Derived.Deep.RegionHeld3
namespace Go.Proofs.Ytogglbhidlnijaa
set_option linter.unusedVariables false
set_option linter.unusedSimpArgs false
set_option linter.unusedSectionVars false
set_option linter.unnecessarySimpa false
open Go Go.RowKit
set_option maxRecDepth 100000

theorem elemI64d : ElemI Try.prog 2 := elemI_mk (by kernel_rfl)
/-- The call returns the truth. -/
def RetTruth (l : List Int) (w : World) (e : Ending) (w' : World) : Prop :=
  ∃ a cap, e = .returned (.slice a l.length cap) ∧ Ints w' a l ∧ Ext w w'

set_option maxHeartbeats 2000000 in
theorem bottom_any (d : Dent) (v : VldD d) (a : Option Addr) (cap : Nat) (l : List Int) (a2 : Option Addr) (c2 : Nat) (w : World) (hI : Prs w a d.rs) (hB : Byts w a2 l) (hl : l.length ≤ 1000) (hb : ∀ i, 0 ≤ nth l i ∧ nth l i ≤ 255) :
    Calls Try.prog 62 #[(.agg #[.int .i64 d.L, .int .i64 d.R, .slice a d.rs.length cap]), .slice a2 l.length c2] w (RetTruth (btms d.rs l d.rs.length) w) := by
  have n1 := v.n1
  have n4 := v.n4
  obtain ⟨b, off, rfl, _, z⟩ := hI.at (by omega)
  have Z := hid z
  have HB := hid hB
  have Hb := hid hb
  clear hI hB z hb
  go_enter Try.func62, Try.ntmps62
  go_wp2_with fail
  go_loopw [5, 6] (fun o i wr => ∃ k : Nat, k ≤ d.rs.length ∧ i = .int .i64 k ∧ OwnI wr (w.heap.size + 1) 2 o (btms d.rs l k) ∧ Ext (w.alloc (.cells #[.int .i64 d.L, .int .i64 d.R, .slice (some ⟨b, off, none⟩) d.rs.length cap] 50)) wr) (fun _ i _ => (d.rs.length - intOf i).toNat)
  case atStart => exact ⟨0, by omega, rfl, OwnI.nil _ _ _, Ext.refl _⟩
  case round =>
    obtain ⟨k, hk, rfl, ho, hw⟩ := hrel
    obtain ⟨c0, c1, c2'⟩ := box3 hw
    by_cases hlt : k < d.rs.length
    · have hd3 := (Z.out k hlt).1
      have hd4 := (Z.out k hlt).2
      have p0 := Ext.cell (show Ext w wr from (by repeat (with_reducible first | assumption | exact Ext.refl _ | refine Ext.drew ?_ | refine Ext.drewN ?_ _ | refine Ext.alloc ?_ _ | (refine Ext.setCell ?_ ?sz _; case sz => (first | (simp; done) | (simp; omega))) | refine Ext.trans ?_ (by assumption)))) (Z.out k hlt).1
      have p1 := Ext.cell (show Ext w wr from (by repeat (with_reducible first | assumption | exact Ext.refl _ | refine Ext.drew ?_ | refine Ext.drewN ?_ _ | refine Ext.alloc ?_ _ | (refine Ext.setCell ?_ ?sz _; case sz => (first | (simp; done) | (simp; omega))) | refine Ext.trans ?_ (by assumption)))) (Z.out k hlt).2
      have ok := v.ok k hlt
      unfold okR at ok
      have bN := byN_bd Hb.out k
      have hst := hid (show btms d.rs l (k + 1) = btms d.rs l k ++ [btm d.rs l k] from rfl)
      have hbd := hid (btm_bd v l k hlt)
      have hlen := hid (btms_len d.rs l k)
      have hbe : Hid (btm d.rs l k = pa d.rs k + (byN l k).tmod (pb d.rs k - pa d.rs k + 1)) := hid (by unfold btm; rw [Int.tmod_eq_emod_of_nonneg bN.1])
      have hby : Hid (byN l k = if l.length = 0 then 0 else nth l (k % l.length)) := hid rfl
      generalize btm d.rs l k = y at *
      generalize byN l k = n at *
      generalize pa d.rs k = lo at *
      generalize pb d.rs k = hi at *
      have hr0 : 0 ≤ n.tmod (hi - lo + 1) ∧ n.tmod (hi - lo + 1) < hi - lo + 1 := by
        rw [Int.tmod_eq_emod_of_nonneg bN.1]; exact ⟨Int.emod_nonneg _ (by omega), Int.emod_lt_of_pos _ (by omega)⟩
      obtain ⟨r, er⟩ : ∃ r, n.tmod (hi - lo + 1) = r := ⟨_, rfl⟩
      rw [er] at hr0
      have hye : Hid (y = lo + r) := hid (by rw [hbe.out, er])
      clear hbe
      have xw : Ext w wr := (by repeat (with_reducible first | assumption | exact Ext.refl _ | refine Ext.drew ?_ | refine Ext.drewN ?_ _ | refine Ext.alloc ?_ _ | (refine Ext.setCell ?_ ?sz _; case sz => (first | (simp; done) | (simp; omega))) | refine Ext.trans ?_ (by assumption)))
      obtain ⟨w0, hw0⟩ : ∃ w0, w0 = w.alloc (.cells #[.int .i64 d.L, .int .i64 d.R, .slice (some ⟨b, off, none⟩) d.rs.length cap] 50) := ⟨_, rfl⟩
      have s0 : w0.heap.size = w.heap.size + 1 := by rw [hw0]; simp
      have x0 : Ext w w0 := by rw [hw0]; exact (Ext.refl w).alloc _
      have d0 : w0.cell? ⟨w.heap.size, 0, none⟩ = some (.int .i64 d.L) := by rw [hw0]; simp [go_sem]
      have d1 : w0.cell? ⟨w.heap.size, 1, none⟩ = some (.int .i64 d.R) := by rw [hw0]; simp [go_sem]
      have d2 : w0.cell? ⟨w.heap.size, 2, none⟩ = some (.slice (some ⟨b, off, none⟩) d.rs.length cap) := by rw [hw0]; simp [go_sem]
      have d3 := x0.cell hd3
      have d4 := x0.cell hd4
      rw [← hw0] at hw
      replace hw0 := hid hw0
      replace ho := hid ho
      replace hst := hst
      by_cases hl0 : l.length = 0
      · have hn : n = 0 := by rw [hby.out, if_pos hl0]
        subst hn
        clear hby
        obtain rfl : r = 0 := by rw [← er]; exact Int.zero_tmod _
        rw [Int.add_zero] at hye
        clear er
        have hnl : ¬ 0 < l.length := by omega
        replace hl0 := hid hl0
        go_wp2_with fail
        have z1 : IntKind.i64.wrap (hi - lo) = hi - lo := Go.IntWalk.i64_in _ (by omega)
        have z2 : IntKind.i64.wrap (hi - lo + 1) = hi - lo + 1 := Go.IntWalk.i64_in _ (by omega)
        have z3 : IntKind.i64.wrap (lo) = lo := Go.IntWalk.i64_in _ (by omega)
        have z4 : ¬ hi - lo + 1 = 0 := by omega
        go_region_held3 (fun w' => w'.cell? ⟨w.heap.size, 0, none⟩ = some (.int .i64 d.L) ∧ w'.cell? ⟨w.heap.size, 1, none⟩ = some (.int .i64 d.R) ∧ w'.cell? ⟨w.heap.size, 2, none⟩ = some (.slice (some ⟨b, off, none⟩) d.rs.length cap) ∧ w'.cell? ⟨b, off + k * 2, none⟩ = some (.int .i64 lo) ∧ w'.cell? ⟨b, off + k * 2 + 1, none⟩ = some (.int .i64 hi) ∧ Ext w0 w') (((try go_split_ands); (repeat' apply And.intro) <;> (first | (with_reducible assumption) | exact Ext.cell (w := w0) (by repeat (with_reducible first | assumption | exact Ext.refl _ | refine Ext.drew ?_ | refine Ext.drewN ?_ _ | refine Ext.alloc ?_ _ | (refine Ext.setCell ?_ ?sz _; case sz => (first | (simp; done) | (simp; omega))) | refine Ext.trans ?_ (by assumption))) (by assumption) | exact (by repeat (with_reducible first | assumption | exact Ext.refl _ | refine Ext.drew ?_ | refine Ext.drewN ?_ _ | refine Ext.alloc ?_ _ | (refine Ext.setCell ?_ ?sz _; case sz => (first | (simp; done) | (simp; omega))) | refine Ext.trans ?_ (by assumption)))))) (first | (rw [if_pos (by rfl)]; refine appI_wp _ _ _ rfl 2 Try.underlying22 elemI64d (w.heap.size + 1) (btms d.rs l k) [y] _ rfl _ 1 rfl ?H1 ?H2 (by simp) (by rw [hlen.out]; simp; omega) ?H3 ?_; (case H1 => exact ho.out.ext (by repeat (with_reducible first | assumption | exact Ext.refl _ | refine Ext.drew ?_ | refine Ext.drewN ?_ _ | refine Ext.alloc ?_ _ | (refine Ext.setCell ?_ ?sz _; case sz => (first | (simp; done) | (simp; omega))) | refine Ext.trans ?_ (by assumption)))); (case H2 => rw [hye.out]; first | exact ints_one rfl | exact Ints.ext (ints_one rfl) (by repeat (with_reducible first | assumption | exact Ext.refl _ | refine Ext.drew ?_ | refine Ext.drewN ?_ _ | refine Ext.alloc ?_ _ | (refine Ext.setCell ?_ ?sz _; case sz => (first | (simp; done) | (simp; omega))) | refine Ext.trans ?_ (by assumption)))); (case H3 => exact Nat.le_trans (Nat.le_trans (Nat.le_of_eq s0.symm) (Ext.size hw)) (Ext.size (w := wr) (by repeat (with_reducible first | assumption | exact Ext.refl _ | refine Ext.drew ?_ | refine Ext.drewN ?_ _ | refine Ext.alloc ?_ _ | (refine Ext.setCell ?_ ?sz _; case sz => (first | (simp; done) | (simp; omega))) | refine Ext.trans ?_ (by assumption))))); intro b4 cp4 w4 ho4 hx4 hb4; have hE4 := hx4 w0 (by repeat (with_reducible first | assumption | exact Ext.refl _ | refine Ext.drew ?_ | refine Ext.drewN ?_ _ | refine Ext.alloc ?_ _ | (refine Ext.setCell ?_ ?sz _; case sz => (first | (simp; done) | (simp; omega))) | refine Ext.trans ?_ (by assumption))) (Nat.le_of_eq s0); clear hx4))
        all_goals
          go_wp2_with fail
          go_roundw
          case rel => exact ⟨k + 1, by omega, rfl, by rw [hst.out]; have h := ho4; rw [List.length_append] at h; exact h, by rw [← hw0.out]; exact (by repeat (with_reducible first | assumption | exact Ext.refl _ | refine Ext.drew ?_ | refine Ext.drewN ?_ _ | refine Ext.alloc ?_ _ | (refine Ext.setCell ?_ ?sz _; case sz => (first | (simp; done) | (simp; omega))) | refine Ext.trans ?_ (by assumption)))⟩
          case measure => simp [intOf]; omega
      · obtain ⟨p, ep⟩ : ∃ p : Nat, (k : Int).tmod (l.length : Int) = (p : Int) := ⟨k % l.length, by rw [Int.tmod_eq_emod_of_nonneg (by omega)]; omega⟩
        have hp : p < l.length ∧ p = k % l.length := by
          rw [Int.tmod_eq_emod_of_nonneg (by omega)] at ep
          have := Nat.mod_lt k (show 0 < l.length by omega)
          omega
        have hn : n = nth l p := by rw [hby.out, if_neg hl0, hp.2]
        obtain ⟨b2, off2, rfl, hb2, hc⟩ := HB.out.at (by omega)
        have q0 := xw.cell (hc p hp.1)
        rw [← hn] at q0
        replace hc := hid hc
        have hp1 := hp.1
        clear hp hn hby
        go_wp2_with fail
        have z1 : IntKind.i64.wrap (hi - lo) = hi - lo := Go.IntWalk.i64_in _ (by omega)
        have z2 : IntKind.i64.wrap (hi - lo + 1) = hi - lo + 1 := Go.IntWalk.i64_in _ (by omega)
        have z3 : IntKind.i64.wrap (lo + r) = lo + r := Go.IntWalk.i64_in _ (by omega)
        have z4 : ¬ hi - lo + 1 = 0 := by omega
        go_region_held3 (fun w' => w'.cell? ⟨w.heap.size, 0, none⟩ = some (.int .i64 d.L) ∧ w'.cell? ⟨w.heap.size, 1, none⟩ = some (.int .i64 d.R) ∧ w'.cell? ⟨w.heap.size, 2, none⟩ = some (.slice (some ⟨b, off, none⟩) d.rs.length cap) ∧ w'.cell? ⟨b, off + k * 2, none⟩ = some (.int .i64 lo) ∧ w'.cell? ⟨b, off + k * 2 + 1, none⟩ = some (.int .i64 hi) ∧ Ext w0 w') (((try go_split_ands); (repeat' apply And.intro) <;> (first | (with_reducible assumption) | exact Ext.cell (w := w0) (by repeat (with_reducible first | assumption | exact Ext.refl _ | refine Ext.drew ?_ | refine Ext.drewN ?_ _ | refine Ext.alloc ?_ _ | (refine Ext.setCell ?_ ?sz _; case sz => (first | (simp; done) | (simp; omega))) | refine Ext.trans ?_ (by assumption))) (by assumption) | exact (by repeat (with_reducible first | assumption | exact Ext.refl _ | refine Ext.drew ?_ | refine Ext.drewN ?_ _ | refine Ext.alloc ?_ _ | (refine Ext.setCell ?_ ?sz _; case sz => (first | (simp; done) | (simp; omega))) | refine Ext.trans ?_ (by assumption)))))) (first | (rw [if_pos (by rfl)]; refine appI_wp _ _ _ rfl 2 Try.underlying22 elemI64d (w.heap.size + 1) (btms d.rs l k) [y] _ rfl _ 1 rfl ?H1 ?H2 (by simp) (by rw [hlen.out]; simp; omega) ?H3 ?_; (case H1 => exact ho.out.ext (by repeat (with_reducible first | assumption | exact Ext.refl _ | refine Ext.drew ?_ | refine Ext.drewN ?_ _ | refine Ext.alloc ?_ _ | (refine Ext.setCell ?_ ?sz _; case sz => (first | (simp; done) | (simp; omega))) | refine Ext.trans ?_ (by assumption)))); (case H2 => rw [hye.out]; first | exact ints_one rfl | exact Ints.ext (ints_one rfl) (by repeat (with_reducible first | assumption | exact Ext.refl _ | refine Ext.drew ?_ | refine Ext.drewN ?_ _ | refine Ext.alloc ?_ _ | (refine Ext.setCell ?_ ?sz _; case sz => (first | (simp; done) | (simp; omega))) | refine Ext.trans ?_ (by assumption)))); (case H3 => exact Nat.le_trans (Nat.le_trans (Nat.le_of_eq s0.symm) (Ext.size hw)) (Ext.size (w := wr) (by repeat (with_reducible first | assumption | exact Ext.refl _ | refine Ext.drew ?_ | refine Ext.drewN ?_ _ | refine Ext.alloc ?_ _ | (refine Ext.setCell ?_ ?sz _; case sz => (first | (simp; done) | (simp; omega))) | refine Ext.trans ?_ (by assumption))))); intro b4 cp4 w4 ho4 hx4 hb4; have hE4 := hx4 w0 (by repeat (with_reducible first | assumption | exact Ext.refl _ | refine Ext.drew ?_ | refine Ext.drewN ?_ _ | refine Ext.alloc ?_ _ | (refine Ext.setCell ?_ ?sz _; case sz => (first | (simp; done) | (simp; omega))) | refine Ext.trans ?_ (by assumption))) (Nat.le_of_eq s0); clear hx4))
        all_goals
          go_wp2_with fail
          go_roundw
          case rel => exact ⟨k + 1, by omega, rfl, by rw [hst.out]; have h := ho4; rw [List.length_append] at h; exact h, by rw [← hw0.out]; exact (by repeat (with_reducible first | assumption | exact Ext.refl _ | refine Ext.drew ?_ | refine Ext.drewN ?_ _ | refine Ext.alloc ?_ _ | (refine Ext.setCell ?_ ?sz _; case sz => (first | (simp; done) | (simp; omega))) | refine Ext.trans ?_ (by assumption)))⟩
          case measure => simp [intOf]; omega
    · obtain rfl : k = d.rs.length := by omega
      obtain ⟨bb, cp, rfl, hi⟩ := ho.slice
      go_wp2_with fail
      go_ret
      exact ⟨bb, cp, rfl, hi, (by repeat (with_reducible first | assumption | exact Ext.refl _ | refine Ext.drew ?_ | refine Ext.drewN ?_ _ | refine Ext.alloc ?_ _ | (refine Ext.setCell ?_ ?sz _; case sz => (first | (simp; done) | (simp; omega))) | refine Ext.trans ?_ (by assumption)))⟩

end Go.Proofs.Ytogglbhidlnijaa
