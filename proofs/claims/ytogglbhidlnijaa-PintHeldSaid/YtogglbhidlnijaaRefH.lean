/- The reference's functions: IsTruth, heldBy. -/
import Derived.Test.YtogglbhidlnijaaRefG
import Derived.Deep.QuietTactic
import Derived.BigQuiet
namespace Go.Proofs.Ytogglbhidlnijaa
set_option linter.unusedVariables false
set_option linter.unusedSimpArgs false
set_option linter.unusedSectionVars false
set_option linter.unnecessarySimpa false
open Go Go.RowKit

instance decT : (rs : List (Int × Int)) → (x : List Int) → Decidable (IsT rs x)
  | [], [] => isTrue trivial
  | [], _ :: _ => isFalse id
  | _ :: _, [] => isFalse id
  | r :: rs, h :: x => by unfold IsT; exact @instDecidableAnd _ _ _ (decT rs x)

set_option maxHeartbeats 1000000 in
theorem isTruth_any (d : Dent) (a : Option Addr) (cap : Nat) (x : List Int) (a2 : Option Addr) (cap2 : Nat) (w : World) (hP : Prs w a d.rs) (hl : d.rs.length ≤ 1000) (hX : Ints w a2 x) (hx : x.length ≤ 100000) :
    Calls Try.prog 50 #[(.agg #[.int .i64 d.L, .int .i64 d.R, .slice a d.rs.length cap]), .slice a2 x.length cap2] w fun e w' => e = .returned (.bool (decide (IsT d.rs x))) ∧ Ext w w' := by
  have hB := (Ext.refl w).alloc (.cells #[.int .i64 d.L, .int .i64 d.R, .slice a d.rs.length cap] 50)
  by_cases g : x.length = d.rs.length
  · rcases Nat.eq_zero_or_pos d.rs.length with h0 | h0
    · have H := hid (show IsT d.rs x from isT_iff.2 ⟨g, fun i hi => by omega⟩)
      rw [g]
      rw [h0] at *
      clear g
      go_enter Try.func50, Try.ntmps50
      go_wp2_with fail
      go_loop [5] (fun i => i = .int .i64 0) (fun i => 0)
      case atStart => rfl
      case round =>
        obtain rfl := hrel
        go_wp2_with fail
        go_ret
        exact ⟨ret_bool (by simp [H.out]), (by repeat (with_reducible first | assumption | exact Ext.refl _ | refine Ext.drew ?_ | refine Ext.drewN ?_ _ | refine Ext.alloc ?_ _ | (refine Ext.setCell ?_ ?sz _; case sz => (first | (simp; done) | (simp; omega))) | refine Ext.trans ?_ (by assumption)))⟩
    · obtain ⟨b, off, rfl, hb, hc⟩ := hP.at h0
      obtain ⟨b2, off2, rfl, hb2, hc2⟩ := hX.at (by omega)
      replace hc := hid hc
      replace hc2 := hid hc2
      have HT := hid (@isT_iff d.rs x)
      have G := hid g
      rw [g]
      clear hX hP g
      go_enter Try.func50, Try.ntmps50
      go_wp2_with fail
      go_loopw [5] (fun i wr => ∃ k : Nat, k ≤ d.rs.length ∧ i = .int .i64 k ∧ Hid (∀ j, j < k → pa d.rs j ≤ nth x j ∧ nth x j ≤ pb d.rs j) ∧ Ext (w.alloc (.cells #[.int .i64 d.L, .int .i64 d.R, .slice _ d.rs.length cap] 50)) wr) (fun i _ => (d.rs.length - intOf i).toNat)
      case atStart => exact ⟨0, by omega, rfl, fun j hj => absurd hj (by omega), Ext.refl _⟩
      case round =>
        obtain ⟨k, hk, rfl, hj, hw⟩ := hrel
        obtain ⟨c0, c1, c2⟩ := box3 hw
        by_cases hlt : k < d.rs.length
        · obtain ⟨e0, e1⟩ := hc.out k hlt
          have e2 := hc2.out k (by have := G.out; omega)
          have e0 := hw.cell (hB.cell e0)
          have e1 := hw.cell (hB.cell e1)
          have e2 := hw.cell (hB.cell e2)
          by_cases g1 : pa d.rs k ≤ nth x k
          · by_cases g2 : nth x k ≤ pb d.rs k
            · have H : Hid (∀ j, j < k + 1 → pa d.rs j ≤ nth x j ∧ nth x j ≤ pb d.rs j) := fun j hj' => by
                rcases Nat.lt_or_ge j k with h' | h'
                · exact hj.out j h'
                · obtain rfl : j = k := by omega
                  exact ⟨g1, g2⟩
              go_wp2_with fail
              go_quiet (fail)
              go_wp2_with fail
              go_roundw
              case rel => exact ⟨k + 1, by omega, by go_num, H, (by repeat (with_reducible first | assumption | exact Ext.refl _ | refine Ext.drew ?_ | refine Ext.drewN ?_ _ | refine Ext.alloc ?_ _ | (refine Ext.setCell ?_ ?sz _; case sz => (first | (simp; done) | (simp; omega))) | refine Ext.trans ?_ (by assumption)))⟩
              case measure => simp [intOf]; omega
            · have H := hid (show ¬ IsT d.rs x from fun h => g2 ((HT.out.1 h).2 k hlt).2)
              go_wp2_with fail
              go_quiet (fail)
              go_wp2_with fail
              go_ret
              exact ⟨ret_bool (by simp [H.out]), (by repeat (with_reducible first | assumption | exact Ext.refl _ | refine Ext.drew ?_ | refine Ext.drewN ?_ _ | refine Ext.alloc ?_ _ | (refine Ext.setCell ?_ ?sz _; case sz => (first | (simp; done) | (simp; omega))) | refine Ext.trans ?_ (by assumption)))⟩
          · have H := hid (show ¬ IsT d.rs x from fun h => g1 ((HT.out.1 h).2 k hlt).1)
            go_wp2_with fail
            go_quiet (fail)
            go_wp2_with fail
            go_ret
            exact ⟨ret_bool (by simp [H.out]), (by repeat (with_reducible first | assumption | exact Ext.refl _ | refine Ext.drew ?_ | refine Ext.drewN ?_ _ | refine Ext.alloc ?_ _ | (refine Ext.setCell ?_ ?sz _; case sz => (first | (simp; done) | (simp; omega))) | refine Ext.trans ?_ (by assumption)))⟩
        · have H := hid (show IsT d.rs x from HT.out.2 ⟨G.out, fun i hi => hj.out i (by omega)⟩)
          go_wp2_with fail
          go_ret
          exact ⟨ret_bool (by simp [H.out]), (by repeat (with_reducible first | assumption | exact Ext.refl _ | refine Ext.drew ?_ | refine Ext.drewN ?_ _ | refine Ext.alloc ?_ _ | (refine Ext.setCell ?_ ?sz _; case sz => (first | (simp; done) | (simp; omega))) | refine Ext.trans ?_ (by assumption)))⟩
  · have H := hid (show ¬ IsT d.rs x from fun h => g h.len)
    go_enter Try.func50, Try.ntmps50
    go_wp2_with fail
    go_ret
    exact ⟨ret_bool (by simp [H.out]), (by repeat (with_reducible first | assumption | exact Ext.refl _ | refine Ext.drew ?_ | refine Ext.drewN ?_ _ | refine Ext.alloc ?_ _ | (refine Ext.setCell ?_ ?sz _; case sz => (first | (simp; done) | (simp; omega))) | refine Ext.trans ?_ (by assumption)))⟩

end Go.Proofs.Ytogglbhidlnijaa
