/- The law PintBest, walked. -/
import Derived.Test.YtogglbhidlnijaaLawB
import Derived.Test.YtogglbhidlnijaaPlainC
import Derived.IntWalk
namespace Go.Proofs.Ytogglbhidlnijaa
set_option linter.unusedVariables false
set_option linter.unusedSimpArgs false
set_option linter.unusedSectionVars false
set_option linter.unnecessarySimpa false
open Go Go.RowKit
set_option maxRecDepth 100000


/-- What the law's depths returns, as far as what all hold. -/
def RetHold (h : Int) (w : World) (e : Ending) (w' : World) : Prop :=
  ∃ a n cap, e = .returned (.tuple #[.slice a n cap, .int .i64 h, .bool true]) ∧ Ext w w'
theorem depthsH_any (m : Meas) (v : Vld m) (a : Option Addr) (cap : Nat) (t : Int) (h0 : -20 ≤ t) (h1 : t ≤ 20) (w : World) (hI : Ints w a m.hs) :
    Calls Try.prog 56 #[(.agg #[.int .i64 m.L, .int .i64 m.R, .slice a m.hs.length cap]), .int .i64 t] w (RetHold (holds m t) w) :=
  (depthsL_any m v a cap t h0 h1 w hI).mono fun _ _ ⟨b, c, h1, h2, h3⟩ => ⟨b, _, c, h1, h3⟩
theorem depthsW_any (m : Meas) (i : Nat) (v : Vld (wth m i 0)) (a : Option Addr) (cap : Nat) (t : Int) (h0 : -20 ≤ t) (h1 : t ≤ 20) (w : World) (hI : Ints w a (wth m i 0).hs) :
    Calls Try.prog 56 #[(.agg #[.int .i64 (wth m i 0).L, .int .i64 (wth m i 0).R, .slice a (wth m i 0).hs.length cap]), .int .i64 t] w (RetHold (out0 m t i) w) := depthsH_any (wth m i 0) v a cap t h0 h1 w hI

set_option maxHeartbeats 8000000 in
theorem pintBest_any (m : Meas) (q : Fit m) (a : Option Addr) (cap : Nat) (tn wi : Int) (w : World) (hI : Ints w a m.hs) (hl : m.hs.length ≤ 9223372036854775807) (ht : -128 ≤ tn ∧ tn ≤ 127) (hwi : 0 ≤ wi ∧ wi ≤ 255) :
    Calls Try.prog 12 #[(.agg #[.int .i64 m.L, .int .i64 m.R, .slice a m.hs.length cap]), .int .i8 tn, .int .u8 wi] w fun e w' => e = .returned (.bool true) ∧ Ext w w' := by
  have hB := (Ext.refl w).alloc (.cells #[.int .i64 m.L, .int .i64 m.R, .slice a m.hs.length cap] 24)
  by_cases v : Vld m
  case neg =>
    go_enter Try.func12, Try.ntmps12
    go_wp2_with fail
    refine (fine_no m q v a cap _ (hI.ext (by repeat (with_reducible first | assumption | exact Ext.refl _ | refine Ext.drew ?_ | refine Ext.drewN ?_ _ | refine Ext.alloc ?_ _ | (refine Ext.setCell ?_ ?sz _; case sz => (first | (simp; done) | (simp; omega))) | refine Ext.trans ?_ (by assumption)))) hl).mono ?_; rintro e w1 ⟨rfl, hE⟩
    go_wp2_with fail
    refine (works_any _).mono ?_; rintro e w2 ⟨rfl, hE2⟩
    go_wp2_with fail
    go_ret
    exact ⟨rfl, (by repeat (with_reducible first | assumption | exact Ext.refl _ | refine Ext.drew ?_ | refine Ext.drewN ?_ _ | refine Ext.alloc ?_ _ | (refine Ext.setCell ?_ ?sz _; case sz => (first | (simp; done) | (simp; omega))) | refine Ext.trans ?_ (by assumption)))⟩
  case pos =>
    have n1 := v.n1
    have n8 := v.n8
    have hl' : m.hs.length ≤ 1000 := by omega
    go_enter Try.func12, Try.ntmps12
    go_wp2_with fail
    refine (fine_yes m v a cap _ (hI.ext (by repeat (with_reducible first | assumption | exact Ext.refl _ | refine Ext.drew ?_ | refine Ext.drewN ?_ _ | refine Ext.alloc ?_ _ | (refine Ext.setCell ?_ ?sz _; case sz => (first | (simp; done) | (simp; omega))) | refine Ext.trans ?_ (by assumption))))).mono ?_; rintro e w1 ⟨rfl, hE⟩
    have X : Hid (Ext w w1) := hid (by repeat (with_reducible first | assumption | exact Ext.refl _ | refine Ext.drew ?_ | refine Ext.drewN ?_ _ | refine Ext.alloc ?_ _ | (refine Ext.setCell ?_ ?sz _; case sz => (first | (simp; done) | (simp; omega))) | refine Ext.trans ?_ (by assumption)))
    have S : MS w.heap.size m a cap w1 := ⟨hE.cell (by simp [go_sem]), hE.cell (by simp [go_sem]), hE.cell (by simp [go_sem]), hI.ext (by repeat (with_reducible first | assumption | exact Ext.refl _ | refine Ext.drew ?_ | refine Ext.drewN ?_ _ | refine Ext.alloc ?_ _ | (refine Ext.setCell ?_ ?sz _; case sz => (first | (simp; done) | (simp; omega))) | refine Ext.trans ?_ (by assumption)))⟩
    generalize w.heap.size = B at *
    replace S := hid S
    clear hE hB hI
    have m0 := S.out.m0; have m1 := S.out.m1; have m2 := S.out.m2
    go_wp2_with fail
    try simp only [List.append_eq, List.cons_append, List.nil_append]
    go_region_held3 (fun w' => w'.cell? ⟨B, 0, none⟩ = some (.int .i64 m.L) ∧ w'.cell? ⟨B, 1, none⟩ = some (.int .i64 m.R) ∧ w'.cell? ⟨B, 2, none⟩ = some (.slice a m.hs.length cap) ∧ Ext w1 w') (((try go_split_ands); (repeat' apply And.intro) <;> (first | (with_reducible assumption) | exact Ext.cell (w := w1) (by repeat (with_reducible first | assumption | exact Ext.refl _ | refine Ext.drew ?_ | refine Ext.drewN ?_ _ | refine Ext.alloc ?_ _ | (refine Ext.setCell ?_ ?sz _; case sz => (first | (simp; done) | (simp; omega))) | refine Ext.trans ?_ (by assumption))) (by assumption) | exact (by repeat (with_reducible first | assumption | exact Ext.refl _ | refine Ext.drew ?_ | refine Ext.drewN ?_ _ | refine Ext.alloc ?_ _ | (refine Ext.setCell ?_ ?sz _; case sz => (first | (simp; done) | (simp; omega))) | refine Ext.trans ?_ (by assumption)))))) (first | (go_at_call 55; refine (tilted_any tn ht _).mono ?_; rintro e w2 ⟨rfl, hE⟩))
    obtain ⟨t0, t1⟩ := tiltOf_bd tn
    generalize tiltOf tn = t at *
    have tI : I64 t := ⟨by omega, by omega⟩
    have hT : Tl m t := ⟨v, t0, t1⟩
    obtain ⟨i0, i1⟩ := rem_bd wi (m.hs.length : Int) hwi.1 (by omega)
    obtain ⟨i, hi⟩ : ∃ i : Nat, wi.tmod (m.hs.length : Int) = (i : Int) := ⟨(wi.tmod (m.hs.length : Int)).toNat, by omega⟩
    rw [hi] at i0 i1
    have hil : i < m.hs.length := by omega
    (have x : Ext w1 w2 := (by repeat (with_reducible first | assumption | exact Ext.refl _ | refine Ext.drew ?_ | refine Ext.drewN ?_ _ | refine Ext.alloc ?_ _ | (refine Ext.setCell ?_ ?sz _; case sz => (first | (simp; done) | (simp; omega))) | refine Ext.trans ?_ (by assumption))); replace S := hid (S.out.ext x); replace X := hid (X.out.trans x); clear x hE m0 m1 m2; have m0 := S.out.m0; have m1 := S.out.m1; have m2 := S.out.m2; go_wp2_with fail)
    refine (best_any m v.fit a cap t _ S.out.i hl' tI).mono ?_; rintro e w3 ⟨rfl, hE⟩
    have et := tlt_ok.2 hT
    have eb : bestOf m t = (bst m t m.hs.length : Nat) := by unfold bestOf; rw [if_pos et]
    have em : moreOf m t = out0 m t (bst m t m.hs.length) - holds m t := by unfold moreOf; rw [if_pos et]
    rw [et, eb, em]
    have hk := bst_lt m t m.hs.length m.hs.length (Nat.le_refl _) n1
    have htop := hid (bst_top m t m.hs.length i hil)
    have hfst := hid (bst_first m t m.hs.length i)
    clear et eb em hT
    generalize bst m t m.hs.length = k at *
    have f1 : decide (m.hs.length ≤ k) = false := by simp; omega
    (have x : Ext w2 w3 := (by repeat (with_reducible first | assumption | exact Ext.refl _ | refine Ext.drew ?_ | refine Ext.drewN ?_ _ | refine Ext.alloc ?_ _ | (refine Ext.setCell ?_ ?sz _; case sz => (first | (simp; done) | (simp; omega))) | refine Ext.trans ?_ (by assumption))); replace S := hid (S.out.ext x); replace X := hid (X.out.trans x); clear x hE m0 m1 m2; have m0 := S.out.m0; have m1 := S.out.m1; have m2 := S.out.m2; go_wp2_with fail)
    refine (depthsH_any m v a cap t t0 t1 _ S.out.i).mono ?_; rintro e w4 ⟨a4, n4, c4, rfl, hE⟩
    (have x : Ext w3 w4 := (by repeat (with_reducible first | assumption | exact Ext.refl _ | refine Ext.drew ?_ | refine Ext.drewN ?_ _ | refine Ext.alloc ?_ _ | (refine Ext.setCell ?_ ?sz _; case sz => (first | (simp; done) | (simp; omega))) | refine Ext.trans ?_ (by assumption))); replace S := hid (S.out.ext x); replace X := hid (X.out.trans x); clear x hE m0 m1 m2; have m0 := S.out.m0; have m1 := S.out.m1; have m2 := S.out.m2; go_wp2_with fail)
    refine (with_any m a cap k 0 _ S.out.i hl' hk).mono ?_; rintro e w5 ⟨a5, c5, rfl, hI5, hE⟩
    (have x : Ext w4 w5 := (by repeat (with_reducible first | assumption | exact Ext.refl _ | refine Ext.drew ?_ | refine Ext.drewN ?_ _ | refine Ext.alloc ?_ _ | (refine Ext.setCell ?_ ?sz _; case sz => (first | (simp; done) | (simp; omega))) | refine Ext.trans ?_ (by assumption))); replace S := hid (S.out.ext x); replace X := hid (X.out.trans x); clear x hE m0 m1 m2; have m0 := S.out.m0; have m1 := S.out.m1; have m2 := S.out.m2; go_wp2_with fail)
    refine (depthsW_any m k (wth_vld v k (by omega) (by omega)) a5 c5 t t0 t1 _ hI5).mono ?_; rintro e w6 ⟨a6, n6, c6, rfl, hE⟩
    clear hI5
    (have x : Ext w5 w6 := (by repeat (with_reducible first | assumption | exact Ext.refl _ | refine Ext.drew ?_ | refine Ext.drewN ?_ _ | refine Ext.alloc ?_ _ | (refine Ext.setCell ?_ ?sz _; case sz => (first | (simp; done) | (simp; omega))) | refine Ext.trans ?_ (by assumption))); replace S := hid (S.out.ext x); replace X := hid (X.out.trans x); clear x hE m0 m1 m2; have m0 := S.out.m0; have m1 := S.out.m1; have m2 := S.out.m2; go_wp2_with fail)
    refine (with_any m a cap i 0 _ S.out.i hl' hil).mono ?_; rintro e w7 ⟨a7, c7, rfl, hI7, hE⟩
    (have x : Ext w6 w7 := (by repeat (with_reducible first | assumption | exact Ext.refl _ | refine Ext.drew ?_ | refine Ext.drewN ?_ _ | refine Ext.alloc ?_ _ | (refine Ext.setCell ?_ ?sz _; case sz => (first | (simp; done) | (simp; omega))) | refine Ext.trans ?_ (by assumption))); replace S := hid (S.out.ext x); replace X := hid (X.out.trans x); clear x hE m0 m1 m2; have m0 := S.out.m0; have m1 := S.out.m1; have m2 := S.out.m2; go_wp2_with fail)
    refine (depthsW_any m i (wth_vld v i (by omega) (by omega)) a7 c7 t t0 t1 _ hI7).mono ?_; rintro e w8 ⟨a8, n8', c8, rfl, hE⟩
    clear hI7
    obtain ⟨o0, o1⟩ := out0_bd v t0 t1 k
    obtain ⟨o2, o3⟩ := out0_bd v t0 t1 i
    obtain ⟨o4, o5⟩ := holds_bd v t0 t1
    have htop := htop.out
    have hfst := hfst.out
    generalize out0 m t k = x at *
    generalize out0 m t i = y at *
    generalize holds m t = z at *
    have hge : ¬ y < x → k ≤ i := fun h => by
      rcases Nat.lt_or_ge i k with g | g
      · exact absurd (hfst g) h
      · exact g
    clear hfst
    by_cases hyx : y < x
    all_goals
      (try have f2 := hge hyx)
      clear hge
      (have x : Ext w7 w8 := (by repeat (with_reducible first | assumption | exact Ext.refl _ | refine Ext.drew ?_ | refine Ext.drewN ?_ _ | refine Ext.alloc ?_ _ | (refine Ext.setCell ?_ ?sz _; case sz => (first | (simp; done) | (simp; omega))) | refine Ext.trans ?_ (by assumption))); replace S := hid (S.out.ext x); replace X := hid (X.out.trans x); clear x hE m0 m1 m2; have m0 := S.out.m0; have m1 := S.out.m1; have m2 := S.out.m2; go_wp2_with fail)
      refine (works_any _).mono ?_; rintro e w9 ⟨rfl, hE⟩
      go_wp2_with fail
      go_ret
      exact ⟨ret_bool (by simp), X.out.trans (by repeat (with_reducible first | assumption | exact Ext.refl _ | refine Ext.drew ?_ | refine Ext.drewN ?_ _ | refine Ext.alloc ?_ _ | (refine Ext.setCell ?_ ?sz _; case sz => (first | (simp; done) | (simp; omega))) | refine Ext.trans ?_ (by assumption)))⟩

end Go.Proofs.Ytogglbhidlnijaa
