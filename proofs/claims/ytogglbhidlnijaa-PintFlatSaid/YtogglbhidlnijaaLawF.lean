/- The law PintFlat, walked. -/
import Derived.Test.YtogglbhidlnijaaLawB
import Derived.Test.YtogglbhidlnijaaMemC
import Derived.Test.YtogglbhidlnijaaPlainG
import Derived.IntWalk
import Derived.Deep.DeepCutAuto
namespace Go.Proofs.Ytogglbhidlnijaa
set_option linter.unusedVariables false
set_option linter.unusedSimpArgs false
set_option linter.unusedSectionVars false
set_option linter.unnecessarySimpa false
open Go Go.RowKit
set_option maxRecDepth 100000


theorem elemI64f : ElemI Try.prog 2 := elemI_mk (by kernel_rfl)
/-- The law's depths of a flat measure. -/
def RetFlat (n : Nat) (c : Int) (w : World) (e : Ending) (w' : World) : Prop :=
  ∃ b off cap, e = .returned (.tuple #[.slice (some ⟨b, off, none⟩) n cap, .int .i64 (n * c), .bool true]) ∧ (∀ i, i < n → w'.cell? ⟨b, off + i, none⟩ = some (.int .i64 c)) ∧ Ext w w'
theorem depthsF_any (n : Nat) (x y c : Int) (hc : min x y = c) (n1 : 1 ≤ n) (n8 : n ≤ 8) (x0 : 0 ≤ x) (x1 : x ≤ 100) (y0 : 0 ≤ y) (y1 : y ≤ 100) (a : Option Addr) (cap : Nat) (w : World) (hI : Ints w a (List.replicate n 0)) :
    Calls Try.prog 56 #[.agg #[.int .i64 x, .int .i64 y, .slice a n cap], .int .i64 0] w (RetFlat n c w) := by
  subst hc
  have h := depthsL_any (flat n x y) (flat_vld n1 n8 x0 x1 y0 y1) a cap 0 (by omega) (by omega) w hI
  rw [flatm_len] at h
  refine h.mono ?_
  rintro e w' ⟨b, c, rfl, h2, h3⟩
  obtain ⟨bb, off, rfl, _, h4⟩ := h2.at (by rw [depths_len, flatm_len]; omega)
  refine ⟨bb, off, c, by rw [flat_all x0 y0, flatm_len], fun i hi => ?_, h3⟩
  have := h4 i (by rw [depths_len, flatm_len]; exact hi)
  rwa [depths_nth _ _ (by rw [flatm_len]; exact hi), flat_dep x0 y0 hi] at this
/-- How much a place lacks to the lesser side. -/
def lack (m : Meas) (T : Int) (i : Nat) : Int := T - nth m.hs i
theorem lack_bd {m : Meas} (v : Vld m) {T : Int} (h : ∀ k, k < m.hs.length → nth m.hs k ≤ T) (hT : T ≤ 100) (k : Nat) (hk : k ≤ m.hs.length) : 0 ≤ sumTo (lack m T) k ∧ sumTo (lack m T) k ≤ 800 := by
  have := sumTo_bd (lack m T) 100 k fun i hi => by have := h i (by omega); have := v.h0 i; unfold lack; omega
  have := v.n8
  omega


set_option maxHeartbeats 8000000 in
theorem pintFlat_any (x0 x1 x2 : Int) (m : Meas) (q : Fit m) (a : Option Addr) (cap : Nat) (w : World) (h0 : 0 ≤ x0 ∧ x0 ≤ 255) (h1 : 0 ≤ x1 ∧ x1 ≤ 255) (h2 : 0 ≤ x2 ∧ x2 ≤ 255) (hI : Ints w a m.hs) (hl : m.hs.length ≤ 9223372036854775807) :
    Calls Try.prog 15 #[.int .u8 x0, .int .u8 x1, .int .u8 x2, (.agg #[.int .i64 m.L, .int .i64 m.R, .slice a m.hs.length cap])] w fun e w' => e = .returned (.bool true) ∧ Ext w w' := by
  have hB := (Ext.refl w).alloc (.cells #[.int .i64 m.L, .int .i64 m.R, .slice a m.hs.length cap] 24)
  obtain ⟨h00, h01⟩ := h0
  obtain ⟨h10, h11⟩ := h1
  obtain ⟨h20, h21⟩ := h2
  obtain ⟨N, hN⟩ : ∃ N : Nat, 1 + x0 % 8 = (N : Int) := ⟨(1 + x0 % 8).toNat, by omega⟩
  have N1 : 1 ≤ N := by omega
  have N8 : N ≤ 8 := by omega
  have hN' := hid hN
  clear hN
  go_enter Try.func15, Try.ntmps15
  go_wp2_with (at_make; refine make_ints rfl _ _ 22 rfl 2 Try.underlying22 elemI64f N (congrArg (Value.int .i64) hN'.out) (congrArg (Value.int .i64) hN'.out) (by omega) ?_)
  intro w1 ho hE1
  obtain ⟨a1, c1, e1, hI1⟩ := ho.slice
  rw [List.length_replicate] at e1
  cases e1
  rw [hN'.out]
  have b10 : 0 ≤ x1 % 101 := by omega
  have b11 : x1 % 101 ≤ 100 := by omega
  have b20 : 0 ≤ x2 % 101 := by omega
  have b21 : x2 % 101 ≤ 100 := by omega
  have X : Hid (Ext w w1) := hid (by repeat (with_reducible first | assumption | exact Ext.refl _ | refine Ext.drew ?_ | refine Ext.drewN ?_ _ | refine Ext.alloc ?_ _ | (refine Ext.setCell ?_ ?sz _; case sz => (first | (simp; done) | (simp; omega))) | refine Ext.trans ?_ (by assumption)))
  have S : MS w.heap.size m a cap w1 := ⟨hE1.cell (by simp [go_sem]), hE1.cell (by simp [go_sem]), hE1.cell (by simp [go_sem]), hI.ext (by repeat (with_reducible first | assumption | exact Ext.refl _ | refine Ext.drew ?_ | refine Ext.drewN ?_ _ | refine Ext.alloc ?_ _ | (refine Ext.setCell ?_ ?sz _; case sz => (first | (simp; done) | (simp; omega))) | refine Ext.trans ?_ (by assumption)))⟩
  replace S := hid S
  have HI1 := hid hI1
  clear hB hE1 hI hI1 ho hN'
  generalize w.heap.size = B at *
  generalize x1 % 101 = A at *
  generalize x2 % 101 = D at *
  obtain ⟨c, hc⟩ : ∃ c, min A D = c := ⟨_, rfl⟩
  have m0 := S.out.m0; have m1 := S.out.m1; have m2 := S.out.m2
  have hcs : (D < A ∧ c = D) ∨ (¬ D < A ∧ c = A) := by omega
  obtain ⟨nc0, nc1⟩ := mul_n (n := N) (c := c) N8 (by omega) (by omega)
  have hc' := hid hc
  clear hc
  go_wp2_with fail
  refine (depthsF_any N A D c hc'.out N1 N8 b10 b11 b20 b21 _ _ _ HI1.out).mono ?_; rintro e w2 ⟨b3, o3, c3, rfl, hK, hE⟩
  replace hK := hid hK
  clear HI1
  have hcc : ∀ z : Int, (z != z) = false := fun z => by simp
  rcases hcs with ⟨hlt, hcD⟩ | ⟨hlt, hcD⟩
  all_goals
    rw [hcD] at hK nc0 nc1 ⊢
    have hne := hcc ((N : Int) * (if D < A then D else A))
    clear hcc hcD hc'
    first | rw [if_pos hlt] at hne | rw [if_neg (by omega)] at hne
    (have x : Ext w1 w2 := (by repeat (with_reducible first | assumption | exact Ext.refl _ | refine Ext.drew ?_ | refine Ext.drewN ?_ _ | refine Ext.alloc ?_ _ | (refine Ext.setCell ?_ ?sz _; case sz => (first | (simp; done) | (simp; omega))) | refine Ext.trans ?_ (by assumption))); replace S := hid (S.out.ext x); replace X := hid (X.out.trans x); clear x hE m0 m1 m2; have m0 := S.out.m0; have m1 := S.out.m1; have m2 := S.out.m2; go_wp2_with fail)
    clear hne nc0 nc1
    go_loop [15] (fun i => ∃ k : Nat, k ≤ N ∧ i = .int .i64 k) (fun i => (N - intOf i).toNat)
    case atStart => exact ⟨0, by omega, rfl⟩
    case round =>
      obtain ⟨k, hk, rfl⟩ := hrel
      by_cases hlk : k < N
      · have ck := hK.out k hlk
        go_wp2_with fail
        go_round
        case rel => exact ⟨k + 1, by omega, by go_num⟩
        case measure => simp [intOf] <;> omega
      · clear hK hlt
        by_cases v : Vld m
        case neg =>
          go_wp2_with fail
          refine (fine_no m q v a cap _ S.out.i hl).mono ?_; rintro e w3 ⟨rfl, hE⟩
          (have x : Ext w2 w3 := (by repeat (with_reducible first | assumption | exact Ext.refl _ | refine Ext.drew ?_ | refine Ext.drewN ?_ _ | refine Ext.alloc ?_ _ | (refine Ext.setCell ?_ ?sz _; case sz => (first | (simp; done) | (simp; omega))) | refine Ext.trans ?_ (by assumption))); replace S := hid (S.out.ext x); replace X := hid (X.out.trans x); clear x hE m0 m1 m2; have m0 := S.out.m0; have m1 := S.out.m1; have m2 := S.out.m2; go_wp2_with fail)
          refine (works_any _).mono ?_; rintro e w4 ⟨rfl, hE⟩
          go_wp2_with fail
          go_ret
          exact ⟨ret_bool (by simp), X.out.trans (by repeat (with_reducible first | assumption | exact Ext.refl _ | refine Ext.drew ?_ | refine Ext.drewN ?_ _ | refine Ext.alloc ?_ _ | (refine Ext.setCell ?_ ?sz _; case sz => (first | (simp; done) | (simp; omega))) | refine Ext.trans ?_ (by assumption)))⟩
        case pos =>
          obtain ⟨b, off, rfl, _, y1⟩ := S.out.i.at v.n1
          replace y1 := hid y1
          go_wp2_with fail
          refine (fine_yes m v _ cap _ S.out.i).mono ?_; rintro e w3 ⟨rfl, hE⟩
          replace y1 : Hid (∀ i, i < m.hs.length → w3.cell? ⟨b, off + i, none⟩ = some (.int .i64 (nth m.hs i))) := hid fun i hi => hE.cell (y1.out i hi)
          have x : Ext w2 w3 := (by repeat (with_reducible first | assumption | exact Ext.refl _ | refine Ext.drew ?_ | refine Ext.drewN ?_ _ | refine Ext.alloc ?_ _ | (refine Ext.setCell ?_ ?sz _; case sz => (first | (simp; done) | (simp; omega))) | refine Ext.trans ?_ (by assumption)))
          replace S := hid (S.out.ext x)
          replace X := hid (X.out.trans x)
          clear x hE m0 m1 m2
          have m0 := S.out.m0; have m1 := S.out.m1; have m2 := S.out.m2
          by_cases hs : m.R < m.L
          · (have hTmin : min m.L m.R = m.R := by omega)
            have n1 := v.n1
            have n8 := v.n8
            have bl0 := v.l0
            have bl1 := v.l1
            have br0 := v.r0
            have br1 := v.r1
            go_wp2_with fail
            go_loop [17] (fun i => ∃ k : Nat, k ≤ m.hs.length ∧ i = .int .i64 k ∧ Hid (∀ j, j < k → nth m.hs j ≤ m.R)) (fun i => (m.hs.length - intOf i).toNat)
            case atStart => exact ⟨0, by omega, rfl, hid fun j hj => by omega⟩
            case round =>
              obtain ⟨k, hk, rfl, hle⟩ := hrel
              by_cases hlt : k < m.hs.length
              · have ck := y1.out k hlt
                by_cases hg : nth m.hs k ≤ m.R
                · have hnext := hid (show ∀ j, j < k + 1 → nth m.hs j ≤ m.R from fun j hj => by
                    rcases Nat.lt_or_ge j k with g | g
                    · exact hle.out j g
                    · obtain rfl : j = k := by omega
                      exact hg)
                  generalize nth m.hs k = h at *
                  go_wp2_with fail
                  go_round
                  case rel => exact ⟨k + 1, by omega, by go_num, hnext⟩
                  case measure => simp [intOf] <;> omega
                · generalize nth m.hs k = h at *
                  go_wp2_with fail
                  refine (works_any _).mono ?_; rintro e wz ⟨rfl, hEz⟩
                  go_wp2_with fail
                  go_ret
                  exact ⟨ret_bool (by simp), X.out.trans (by repeat (with_reducible first | assumption | exact Ext.refl _ | refine Ext.drew ?_ | refine Ext.drewN ?_ _ | refine Ext.alloc ?_ _ | (refine Ext.setCell ?_ ?sz _; case sz => (first | (simp; done) | (simp; omega))) | refine Ext.trans ?_ (by assumption)))⟩
              · have e : k = m.hs.length := by omega
                subst e
                have hbd := hid (lack_bd v hle.out (by omega))
                have hfl := hid (show holds m 0 = sumTo (lack m m.R) m.hs.length by
                  rw [flat_holds (by rw [hTmin]; exact hle.out), hTmin]; rfl)
                clear hle hlt
                go_wp2_with fail
                go_loop [18, 19] (fun s i => ∃ k : Nat, k ≤ m.hs.length ∧ i = .int .i64 k ∧ s = .int .i64 (sumTo (lack m m.R) k)) (fun _ i => (m.hs.length - intOf i).toNat)
                case atStart => exact ⟨0, by omega, rfl, rfl⟩
                case round =>
                  obtain ⟨k, hk, rfl, rfl⟩ := hrel
                  obtain ⟨s0, s1⟩ := hbd.out k hk
                  by_cases hlt : k < m.hs.length
                  · have ck := y1.out k hlt
                    have e := hid (show sumTo (lack m m.R) (k + 1) = sumTo (lack m m.R) k + (m.R - nth m.hs k) from rfl)
                    have g0 := v.h0 k
                    have g1 := v.h1 k
                    generalize nth m.hs k = h at *
                    go_wp2_with fail
                    go_round
                    case rel => exact ⟨k + 1, by omega, by go_num, by rw [e.out]⟩
                    case measure => simp [intOf] <;> omega
                  · have e : k = m.hs.length := by omega
                    subst e
                    go_wp2_with fail
                    refine (depthsL_any m v _ cap 0 (by omega) (by omega) _ S.out.i).mono ?_; rintro e wy ⟨a5, c5, rfl, hK, hE⟩
                    rw [hfl.out]
                    have hE' := hid hE
                    clear hE hK hfl hbd
                    generalize sumTo (lack m m.R) m.hs.length = sm at *
                    go_wp2_with fail
                    refine (works_any _).mono ?_; rintro e wz ⟨rfl, hEz⟩
                    go_wp2_with fail
                    go_ret
                    exact ⟨ret_bool (by simp), X.out.trans (hE'.out.trans (by repeat (with_reducible first | assumption | exact Ext.refl _ | refine Ext.drew ?_ | refine Ext.drewN ?_ _ | refine Ext.alloc ?_ _ | (refine Ext.setCell ?_ ?sz _; case sz => (first | (simp; done) | (simp; omega))) | refine Ext.trans ?_ (by assumption))))⟩
          · (have hTmin : min m.L m.R = m.L := by omega)
            have n1 := v.n1
            have n8 := v.n8
            have bl0 := v.l0
            have bl1 := v.l1
            have br0 := v.r0
            have br1 := v.r1
            go_wp2_with fail
            go_loop [17] (fun i => ∃ k : Nat, k ≤ m.hs.length ∧ i = .int .i64 k ∧ Hid (∀ j, j < k → nth m.hs j ≤ m.L)) (fun i => (m.hs.length - intOf i).toNat)
            case atStart => exact ⟨0, by omega, rfl, hid fun j hj => by omega⟩
            case round =>
              obtain ⟨k, hk, rfl, hle⟩ := hrel
              by_cases hlt : k < m.hs.length
              · have ck := y1.out k hlt
                by_cases hg : nth m.hs k ≤ m.L
                · have hnext := hid (show ∀ j, j < k + 1 → nth m.hs j ≤ m.L from fun j hj => by
                    rcases Nat.lt_or_ge j k with g | g
                    · exact hle.out j g
                    · obtain rfl : j = k := by omega
                      exact hg)
                  generalize nth m.hs k = h at *
                  go_wp2_with fail
                  go_round
                  case rel => exact ⟨k + 1, by omega, by go_num, hnext⟩
                  case measure => simp [intOf] <;> omega
                · generalize nth m.hs k = h at *
                  go_wp2_with fail
                  refine (works_any _).mono ?_; rintro e wz ⟨rfl, hEz⟩
                  go_wp2_with fail
                  go_ret
                  exact ⟨ret_bool (by simp), X.out.trans (by repeat (with_reducible first | assumption | exact Ext.refl _ | refine Ext.drew ?_ | refine Ext.drewN ?_ _ | refine Ext.alloc ?_ _ | (refine Ext.setCell ?_ ?sz _; case sz => (first | (simp; done) | (simp; omega))) | refine Ext.trans ?_ (by assumption)))⟩
              · have e : k = m.hs.length := by omega
                subst e
                have hbd := hid (lack_bd v hle.out (by omega))
                have hfl := hid (show holds m 0 = sumTo (lack m m.L) m.hs.length by
                  rw [flat_holds (by rw [hTmin]; exact hle.out), hTmin]; rfl)
                clear hle hlt
                go_wp2_with fail
                go_loop [18, 19] (fun s i => ∃ k : Nat, k ≤ m.hs.length ∧ i = .int .i64 k ∧ s = .int .i64 (sumTo (lack m m.L) k)) (fun _ i => (m.hs.length - intOf i).toNat)
                case atStart => exact ⟨0, by omega, rfl, rfl⟩
                case round =>
                  obtain ⟨k, hk, rfl, rfl⟩ := hrel
                  obtain ⟨s0, s1⟩ := hbd.out k hk
                  by_cases hlt : k < m.hs.length
                  · have ck := y1.out k hlt
                    have e := hid (show sumTo (lack m m.L) (k + 1) = sumTo (lack m m.L) k + (m.L - nth m.hs k) from rfl)
                    have g0 := v.h0 k
                    have g1 := v.h1 k
                    generalize nth m.hs k = h at *
                    go_wp2_with fail
                    go_round
                    case rel => exact ⟨k + 1, by omega, by go_num, by rw [e.out]⟩
                    case measure => simp [intOf] <;> omega
                  · have e : k = m.hs.length := by omega
                    subst e
                    go_wp2_with fail
                    refine (depthsL_any m v _ cap 0 (by omega) (by omega) _ S.out.i).mono ?_; rintro e wy ⟨a5, c5, rfl, hK, hE⟩
                    rw [hfl.out]
                    have hE' := hid hE
                    clear hE hK hfl hbd
                    generalize sumTo (lack m m.L) m.hs.length = sm at *
                    go_wp2_with fail
                    refine (works_any _).mono ?_; rintro e wz ⟨rfl, hEz⟩
                    go_wp2_with fail
                    go_ret
                    exact ⟨ret_bool (by simp), X.out.trans (hE'.out.trans (by repeat (with_reducible first | assumption | exact Ext.refl _ | refine Ext.drew ?_ | refine Ext.drewN ?_ _ | refine Ext.alloc ?_ _ | (refine Ext.setCell ?_ ?sz _; case sz => (first | (simp; done) | (simp; omega))) | refine Ext.trans ?_ (by assumption))))⟩

end Go.Proofs.Ytogglbhidlnijaa
