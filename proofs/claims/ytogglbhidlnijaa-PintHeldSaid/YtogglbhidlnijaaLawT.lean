/- The law PintTruths, walked. -/
import Derived.Test.YtogglbhidlnijaaLawS
import Derived.Deep.QuietTactic
import Derived.BigQuiet
import Derived.StillTailTactics
namespace Go.Proofs.Ytogglbhidlnijaa
set_option linter.unusedVariables false
set_option linter.unusedSimpArgs false
set_option linter.unusedSectionVars false
set_option linter.unnecessarySimpa false
open Go Go.RowKit
set_option maxRecDepth 100000

theorem truth_q {d : Dent} {t : Int} {good : Int → Bool} {er : Int} {w w' : World} {e : Ending} (h : TruthP d t good er w e w') (hl : d.rs.length ≤ 10) :
    ∃ a n cap, e = .returned (.tuple #[.slice a n cap, .int .i64 er]) ∧ Ext w w' ∧ n ≤ 10 ∧ ((er ≠ 0 ∧ n = 0) ∨ (er = 0 ∧ ∃ y : List Int, n = y.length ∧ Ints w' a y ∧ IsT d.rs y ∧ good (holds (meas d y) t) = true)) := by
  obtain ⟨hE, ⟨h1, rfl⟩ | ⟨h1, y, a, cap, h2, h3, rfl, h4⟩⟩ := h
  · exact ⟨none, 0, 0, rfl, hE, by omega, .inl ⟨h1, rfl⟩⟩
  · exact ⟨a, y.length, cap, by rw [h1], hE, by rw [h2.len]; exact hl, .inr ⟨h1, y, rfl, h4, h2, h3⟩⟩
theorem holdsM_any (d : Dent) (y : List Int) (v : Vld (meas d y)) (a : Option Addr) (n cap : Nat) (hn : n = y.length) (t : Int) (h0 : -20 ≤ t) (h1 : t ≤ 20) (w : World) (hI : Ints w a y) :
    Calls Try.prog 52 #[.agg #[.int .i64 d.L, .int .i64 d.R, .slice a n cap], .int .i64 t] w fun e w' => e = .returned (.int .i64 (holds (meas d y) t)) ∧ Ext w w' := by
  subst hn
  exact holdsOf_any (meas d y) v a cap t w hI h0 h1
theorem isTruthN_any (d : Dent) (a : Option Addr) (cap : Nat) (x : List Int) (a2 : Option Addr) (n cap2 : Nat) (hn : n = x.length) (w : World) (hP : Prs w a d.rs) (hl : d.rs.length ≤ 1000) (hX : Ints w a2 x) (hx : n ≤ 100000) :
    Calls Try.prog 50 #[(.agg #[.int .i64 d.L, .int .i64 d.R, .slice a d.rs.length cap]), .slice a2 n cap2] w fun e w' => e = .returned (.bool (decide (IsT d.rs x))) ∧ Ext w w' := by
  subst hn
  exact isTruth_any d a cap x a2 cap2 w hP hl hX hx

theorem rightE_vals (d : Dent) (t x y : Int) : rightE d t x y = 0 ∨ rightE d t x y = 3 ∨ rightE d t x y = 6 ∨ rightE d t x y = 20 := by
  have := ask_cases d t x y
  unfold rightE; split <;> omega
theorem wrongE_vals (d : Dent) (t x y : Int) : wrongE d t x y = 0 ∨ wrongE d t x y = 3 ∨ wrongE d t x y = 6 ∨ wrongE d t x y = 5 := by
  have := ask_cases d t x y
  unfold wrongE; split <;> omega




set_option maxHeartbeats 8000000 in
theorem pintTruths_any (d : Dent) (q : FitD d) (a : Option Addr) (cap : Nat) (t x y : Int) (w : World) (hI : Prs w a d.rs) (hl : d.rs.length ≤ 9223372036854775807) (ht : I64 t) (hx : I64 x) (hy : I64 y) :
    Calls Try.prog 6 #[(.agg #[.int .i64 d.L, .int .i64 d.R, .slice a d.rs.length cap]), .int .i64 t, .agg #[.int .i64 x, .int .i64 y]] w fun e w' => e = .returned (.bool true) ∧ Ext w w' := by
  have hB : Ext w ((w.alloc (.cells #[.int .i64 d.L, .int .i64 d.R, .slice a d.rs.length cap] 50)).alloc (.cells #[.int .i64 x, .int .i64 y] 52)) := (by repeat (with_reducible first | assumption | exact Ext.refl _ | refine Ext.drew ?_ | refine Ext.drewN ?_ _ | refine Ext.alloc ?_ _ | (refine Ext.setCell ?_ ?sz _; case sz => (first | (simp; done) | (simp; omega))) | refine Ext.trans ?_ (by assumption)))
  by_cases g : 10 < d.rs.length
  · have hd : decide (10 < d.rs.length) = true := by simpa using g
    go_enter Try.func6, Try.ntmps6
    go_wp2_with fail
    refine (wide_any d a cap _ hl).mono ?_; rintro e w1 ⟨rfl, hE⟩
    rw [hd]
    go_wp2_with fail
    refine (works_any _).mono ?_; rintro e w2 ⟨rfl, hE2⟩
    go_wp2_with fail
    go_ret
    exact ⟨rfl, (by repeat (with_reducible first | assumption | exact Ext.refl _ | refine Ext.drew ?_ | refine Ext.drewN ?_ _ | refine Ext.alloc ?_ _ | (refine Ext.setCell ?_ ?sz _; case sz => (first | (simp; done) | (simp; omega))) | refine Ext.trans ?_ (by assumption)))⟩
  · have hd : decide (10 < d.rs.length) = false := by simpa using g
    have hl' : d.rs.length ≤ 1000 := by omega
    have hl10 : d.rs.length ≤ 10 := by omega
    go_enter Try.func6, Try.ntmps6
    go_wp2_with fail
    refine (wide_any d a cap _ hl).mono ?_; rintro e w1 ⟨rfl, hE⟩
    rw [hd]
    have X : Hid (Ext w w1) := hid (by repeat (with_reducible first | assumption | exact Ext.refl _ | refine Ext.drew ?_ | refine Ext.drewN ?_ _ | refine Ext.alloc ?_ _ | (refine Ext.setCell ?_ ?sz _; case sz => (first | (simp; done) | (simp; omega))) | refine Ext.trans ?_ (by assumption)))
    have S : DS w.heap.size (w.heap.size + 1) d a cap x y w1 := ⟨hE.cell (by simp [go_sem]), hE.cell (by simp [go_sem]), hE.cell (by simp [go_sem]), hE.cell (by simp [go_sem]), hE.cell (by simp [go_sem]), hI.ext (by repeat (with_reducible first | assumption | exact Ext.refl _ | refine Ext.drew ?_ | refine Ext.drewN ?_ _ | refine Ext.alloc ?_ _ | (refine Ext.setCell ?_ ?sz _; case sz => (first | (simp; done) | (simp; omega))) | refine Ext.trans ?_ (by assumption)))⟩
    generalize w.heap.size + 1 = C at *
    generalize w.heap.size = B at *
    replace S := hid S
    clear hE hB hI hd
    have m0 := S.out.m0; have m1 := S.out.m1; have m2 := S.out.m2; have x0 := S.out.x0; have x1 := S.out.x1
    go_wp2_with fail
    refine (right_any d q a cap t x y _ S.out.i hl' ht hx hy).mono ?_; rintro e w2 hr
    obtain ⟨a1, n1, cp1, rfl, hE, hn1, hd1⟩ := truth_q hr hl10
    clear hr
    replace hd1 := hid hd1
    (have x : Ext w1 w2 := (by repeat (with_reducible first | assumption | exact Ext.refl _ | refine Ext.drew ?_ | refine Ext.drewN ?_ _ | refine Ext.alloc ?_ _ | (refine Ext.setCell ?_ ?sz _; case sz => (first | (simp; done) | (simp; omega))) | refine Ext.trans ?_ (by assumption))); replace S := hid (S.out.ext x); replace X := hid (X.out.trans x); clear x hE m0 m1 m2 x0 x1; have m0 := S.out.m0; have m1 := S.out.m1; have m2 := S.out.m2; have x0 := S.out.x0; have x1 := S.out.x1; have bB := cell_lt m0; have bC := cell_lt x0; simp only at bB bC)
    go_wp2_with fail
    refine (wrong_any d q a cap t x y _ S.out.i hl' ht hx hy).mono ?_; rintro e w3 hr
    obtain ⟨a2, n2, cp2, rfl, hE, hn2, hd2⟩ := truth_q hr hl10
    clear hr
    replace hd2 := hid hd2
    have xx : Ext w2 w3 := (by repeat (with_reducible first | assumption | exact Ext.refl _ | refine Ext.drew ?_ | refine Ext.drewN ?_ _ | refine Ext.alloc ?_ _ | (refine Ext.setCell ?_ ?sz _; case sz => (first | (simp; done) | (simp; omega))) | refine Ext.trans ?_ (by assumption)))
    clear bB bC
    (have x : Ext w2 w3 := (by repeat (with_reducible first | assumption | exact Ext.refl _ | refine Ext.drew ?_ | refine Ext.drewN ?_ _ | refine Ext.alloc ?_ _ | (refine Ext.setCell ?_ ?sz _; case sz => (first | (simp; done) | (simp; omega))) | refine Ext.trans ?_ (by assumption))); replace S := hid (S.out.ext x); replace X := hid (X.out.trans x); clear x hE m0 m1 m2 x0 x1; have m0 := S.out.m0; have m1 := S.out.m1; have m2 := S.out.m2; have x0 := S.out.x0; have x1 := S.out.x1; have bB := cell_lt m0; have bC := cell_lt x0; simp only at bB bC)
    have D1 : Hid ((rightE d t x y ≠ 0 ∧ n1 = 0) ∨ (rightE d t x y = 0 ∧ ∃ z : List Int, n1 = z.length ∧ Ints w3 a1 z ∧ IsT d.rs z ∧ inB x y (holds (meas d z) t) = true)) := by
      rcases hd1.out with h | ⟨h, z, h2, h3, h4⟩
      · exact hid (.inl h)
      · exact hid (.inr ⟨h, z, h2, h3.ext xx, h4⟩)
    have D2 : Hid ((wrongE d t x y ≠ 0 ∧ n2 = 0) ∨ (wrongE d t x y = 0 ∧ ∃ z : List Int, n2 = z.length ∧ Ints w3 a2 z ∧ IsT d.rs z ∧ outB x y (holds (meas d z) t) = true)) := hd2
    clear xx hd1 hd2
    have hok1 : Hid (rightE d t x y = 0 → Dl d t) := hid (fun h => by
      by_cases c : ask d t x y = 0
      · exact (ask_ok.1 c).1
      · unfold rightE at h; rw [if_neg (by simp [c])] at h; exact absurd h c)
    have hok2 : Hid (wrongE d t x y = 0 → Dl d t) := hid (fun h => by
      by_cases c : ask d t x y = 0
      · exact (ask_ok.1 c).1
      · unfold wrongE at h; rw [if_neg (by simp [c])] at h; exact absurd h c)
    go_wp2_with fail
    try simp only [List.append_eq, List.cons_append, List.nil_append]
    go_region_held3 (fun w' => w'.cell? ⟨B, 0, none⟩ = some (.int .i64 d.L) ∧ w'.cell? ⟨B, 1, none⟩ = some (.int .i64 d.R) ∧ w'.cell? ⟨B, 2, none⟩ = some (.slice a d.rs.length cap) ∧ w'.cell? ⟨C, 0, none⟩ = some (.int .i64 x) ∧ w'.cell? ⟨C, 1, none⟩ = some (.int .i64 y) ∧ Ext w3 w') (((try go_split_ands); (repeat' apply And.intro) <;> (first | (with_reducible assumption) | exact Ext.cell (w := w3) (by repeat (with_reducible first | assumption | exact Ext.refl _ | refine Ext.drew ?_ | refine Ext.drewN ?_ _ | refine Ext.alloc ?_ _ | (refine Ext.setCell ?_ ?sz _; case sz => (first | (simp; done) | (simp; omega))) | refine Ext.trans ?_ (by assumption))) (by assumption) | exact (by repeat (with_reducible first | assumption | exact Ext.refl _ | refine Ext.drew ?_ | refine Ext.drewN ?_ _ | refine Ext.alloc ?_ _ | (refine Ext.setCell ?_ ?sz _; case sz => (first | (simp; done) | (simp; omega))) | refine Ext.trans ?_ (by assumption)))))) (first | (go_at_call 48; refine (rightErrorR_any d q a cap t x y _ (S.out.i.ext (by repeat (with_reducible first | assumption | exact Ext.refl _ | refine Ext.drew ?_ | refine Ext.drewN ?_ _ | refine Ext.alloc ?_ _ | (refine Ext.setCell ?_ ?sz _; case sz => (first | (simp; done) | (simp; omega))) | refine Ext.trans ?_ (by assumption)))) hl').mono ?_; rintro e wc ⟨rfl, hEc⟩) | (go_at_call 49; refine (wrongErrorR_any d q a cap t x y _ (S.out.i.ext (by repeat (with_reducible first | assumption | exact Ext.refl _ | refine Ext.drew ?_ | refine Ext.drewN ?_ _ | refine Ext.alloc ?_ _ | (refine Ext.setCell ?_ ?sz _; case sz => (first | (simp; done) | (simp; omega))) | refine Ext.trans ?_ (by assumption)))) hl').mono ?_; rintro e wd ⟨rfl, hEd⟩))
    have xx : Ext w3 wd := (by repeat (with_reducible first | assumption | exact Ext.refl _ | refine Ext.drew ?_ | refine Ext.drewN ?_ _ | refine Ext.alloc ?_ _ | (refine Ext.setCell ?_ ?sz _; case sz => (first | (simp; done) | (simp; omega))) | refine Ext.trans ?_ (by assumption)))
    replace D1 : Hid ((rightE d t x y ≠ 0 ∧ n1 = 0) ∨ (rightE d t x y = 0 ∧ ∃ z : List Int, n1 = z.length ∧ Ints wd a1 z ∧ IsT d.rs z ∧ inB x y (holds (meas d z) t) = true)) := by
      rcases D1.out with h | ⟨h, z, h2, h3, h4⟩
      · exact hid (.inl h)
      · exact hid (.inr ⟨h, z, h2, h3.ext xx, h4⟩)
    replace D2 : Hid ((wrongE d t x y ≠ 0 ∧ n2 = 0) ∨ (wrongE d t x y = 0 ∧ ∃ z : List Int, n2 = z.length ∧ Ints wd a2 z ∧ IsT d.rs z ∧ outB x y (holds (meas d z) t) = true)) := by
      rcases D2.out with h | ⟨h, z, h2, h3, h4⟩
      · exact hid (.inl h)
      · exact hid (.inr ⟨h, z, h2, h3.ext xx, h4⟩)
    have hE : Ext w3 wd := xx
    clear xx bB bC hEc hEd
    (have x : Ext w3 wd := (by repeat (with_reducible first | assumption | exact Ext.refl _ | refine Ext.drew ?_ | refine Ext.drewN ?_ _ | refine Ext.alloc ?_ _ | (refine Ext.setCell ?_ ?sz _; case sz => (first | (simp; done) | (simp; omega))) | refine Ext.trans ?_ (by assumption))); replace S := hid (S.out.ext x); replace X := hid (X.out.trans x); clear x hE m0 m1 m2 x0 x1; have m0 := S.out.m0; have m1 := S.out.m1; have m2 := S.out.m2; have x0 := S.out.x0; have x1 := S.out.x1; have bB := cell_lt m0; have bC := cell_lt x0; simp only at bB bC)
    have vw := wrongE_vals d t x y
    have vr := rightE_vals d t x y
    generalize wrongE d t x y = ew at *
    generalize rightE d t x y = er at *
    rcases D1.out with ⟨e1, rfl⟩ | ⟨rfl, z1, rfl, hI1, hT1, hG1⟩
    · clear D1 hok1
      rcases D2.out with ⟨e2, rfl⟩ | ⟨rfl, z2, rfl, hI2, hT2, hG2⟩
      · clear D2 hok2
        have b1 : (er == 0) = false := by simpa using e1
        have b2 : (ew == 0) = false := by simpa using e2
        have x1 : (er != 0) = true := by simpa using e1
        have x2 : (ew != 0) = true := by simpa using e2
        go_wp2_with fail
        (go_quiet (fail))
        go_wp2_with fail
        · refine wp_region_held_drew (S := fun w' => Ext wd w') (by kernel_rfl) ((by repeat (with_reducible first | assumption | exact Ext.refl _ | refine Ext.drew ?_ | refine Ext.drewN ?_ _ | refine Ext.alloc ?_ _ | (refine Ext.setCell ?_ ?sz _; case sz => (first | (simp; done) | (simp; omega))) | refine Ext.trans ?_ (by assumption))) : Ext wd _) fun hHeld => ?_
          refine wpAnyH_take (i := 0) (oi := _) (v := ?_) rfl (by kernel_rfl) (by kernel_rfl) (by kernel_rfl) (fun _ _ _ h => h) (Or.inl ⟨by rfl, ?yl⟩) (by assumption) ?_
          case yl => (intro w hSw; (try dsimp only at hSw); go_simp; (try simp only [x2])); with_reducible rfl
          try simp only [Act.put, List.setIfInBounds_toArray, List.set_cons_zero, List.set_cons_succ]
          refine wpAnyH_take (i := 1) (oi := _) (v := ?_) rfl (by kernel_rfl) (by kernel_rfl) (by kernel_rfl) (fun _ _ _ h => h) (Or.inl ⟨by rfl, ?yl⟩) (by assumption) ?_
          case yl => (intro w hSw; (try dsimp only at hSw); go_simp; (try simp only [x2])); with_reducible rfl
          try simp only [Act.put, List.setIfInBounds_toArray, List.set_cons_zero, List.set_cons_succ]
          refine wpAnyH_take (i := 2) (oi := _) (v := ?_) rfl (by kernel_rfl) (by kernel_rfl) (by kernel_rfl) (fun _ _ _ h => h) (Or.inl ⟨by rfl, ?yl⟩) (by assumption) ?_
          case yl => (intro w hSw; (try dsimp only at hSw); go_simp; (try simp only [x2])); with_reducible rfl
          try simp only [Act.put, List.setIfInBounds_toArray, List.set_cons_zero, List.set_cons_succ]
          refine wpAnyH_take (i := 3) (oi := _) (v := undef) rfl (by kernel_rfl) (by kernel_rfl) (by kernel_rfl) (fun _ _ _ h => h) (Or.inr ⟨by kernel_rfl, rfl⟩) (by assumption) ?_
          try simp only [Act.put, List.setIfInBounds_toArray, List.set_cons_zero, List.set_cons_succ]
          refine wpAnyH_take (i := 4) (oi := _) (v := undef) rfl (by kernel_rfl) (by kernel_rfl) (by kernel_rfl) (fun _ _ _ h => h) (Or.inr ⟨by kernel_rfl, rfl⟩) (by assumption) ?_
          try simp only [Act.put, List.setIfInBounds_toArray, List.set_cons_zero, List.set_cons_succ]
          refine wpAnyH_take (i := 5) (oi := _) (v := undef) rfl (by kernel_rfl) (by kernel_rfl) (by kernel_rfl) (fun _ _ _ h => h) (Or.inr ⟨by kernel_rfl, rfl⟩) (by assumption) ?_
          try simp only [Act.put, List.setIfInBounds_toArray, List.set_cons_zero, List.set_cons_succ]
          refine wpAnyH_take (i := 6) (oi := _) (v := undef) rfl (by kernel_rfl) (by kernel_rfl) (by kernel_rfl) (fun _ _ _ h => h) (Or.inr ⟨by kernel_rfl, rfl⟩) (by assumption) ?_
          try simp only [Act.put, List.setIfInBounds_toArray, List.set_cons_zero, List.set_cons_succ]
          refine wpAnyH_take (i := 7) (oi := _) (v := undef) rfl (by kernel_rfl) (by kernel_rfl) (by kernel_rfl) (fun _ _ _ h => h) (Or.inr ⟨by kernel_rfl, rfl⟩) (by assumption) ?_
          try simp only [Act.put, List.setIfInBounds_toArray, List.set_cons_zero, List.set_cons_succ]
          refine wpAnyH_take (i := 8) (oi := _) (v := undef) rfl (by kernel_rfl) (by kernel_rfl) (by kernel_rfl) (fun _ _ _ h => h) (Or.inr ⟨by kernel_rfl, rfl⟩) (by assumption) ?_
          try simp only [Act.put, List.setIfInBounds_toArray, List.set_cons_zero, List.set_cons_succ]
          refine wpAnyH_take (i := 9) (oi := _) (v := undef) rfl (by kernel_rfl) (by kernel_rfl) (by kernel_rfl) (fun _ _ _ h => h) (Or.inr ⟨by kernel_rfl, rfl⟩) (by assumption) ?_
          try simp only [Act.put, List.setIfInBounds_toArray, List.set_cons_zero, List.set_cons_succ]
          refine wpAnyH_take (i := 10) (oi := _) (v := undef) rfl (by kernel_rfl) (by kernel_rfl) (by kernel_rfl) (fun _ _ _ h => h) (Or.inr ⟨by kernel_rfl, rfl⟩) (by assumption) ?_
          try simp only [Act.put, List.setIfInBounds_toArray, List.set_cons_zero, List.set_cons_succ]
          refine wpAnyH_take (i := 11) (oi := _) (v := undef) rfl (by kernel_rfl) (by kernel_rfl) (by kernel_rfl) (fun _ _ _ h => h) (Or.inr ⟨by kernel_rfl, rfl⟩) (by assumption) ?_
          try simp only [Act.put, List.setIfInBounds_toArray, List.set_cons_zero, List.set_cons_succ]
          refine wpAnyH_take (i := 12) (oi := _) (v := undef) rfl (by kernel_rfl) (by kernel_rfl) (by kernel_rfl) (fun _ _ _ h => h) (Or.inr ⟨by kernel_rfl, rfl⟩) (by assumption) ?_
          try simp only [Act.put, List.setIfInBounds_toArray, List.set_cons_zero, List.set_cons_succ]
          refine wpAnyH_take (i := 13) (oi := _) (v := undef) rfl (by kernel_rfl) (by kernel_rfl) (by kernel_rfl) (fun _ _ _ h => h) (Or.inr ⟨by kernel_rfl, rfl⟩) (by assumption) ?_
          try simp only [Act.put, List.setIfInBounds_toArray, List.set_cons_zero, List.set_cons_succ]
          refine wpAnyH_take (i := 14) (oi := _) (v := undef) rfl (by kernel_rfl) (by kernel_rfl) (by kernel_rfl) (fun _ _ _ h => h) (Or.inr ⟨by kernel_rfl, rfl⟩) (by assumption) ?_
          try simp only [Act.put, List.setIfInBounds_toArray, List.set_cons_zero, List.set_cons_succ]
          refine wpAnyH_take (i := 15) (oi := _) (v := undef) rfl (by kernel_rfl) (by kernel_rfl) (by kernel_rfl) (fun _ _ _ h => h) (Or.inr ⟨by kernel_rfl, rfl⟩) (by assumption) ?_
          try simp only [Act.put, List.setIfInBounds_toArray, List.set_cons_zero, List.set_cons_succ]
          refine wpAnyH_take (i := 16) (oi := _) (v := ?_) rfl (by kernel_rfl) (by kernel_rfl) (by kernel_rfl) (fun _ _ _ h => h) (Or.inl ⟨by rfl, ?yl⟩) (by assumption) ?_
          case yl => (intro w hSw; (try dsimp only at hSw); go_simp; (try simp only [x2])); with_reducible rfl
          try simp only [Act.put, List.setIfInBounds_toArray, List.set_cons_zero, List.set_cons_succ]
          refine wpAnyH_take (i := 17) (oi := _) (v := ?_) rfl (by kernel_rfl) (by kernel_rfl) (by kernel_rfl) (fun _ _ _ h => h) (Or.inl ⟨by rfl, ?yl⟩) (by assumption) ?_
          case yl => (intro w hSw; (try dsimp only at hSw); go_simp; (try simp only [x2])); with_reducible rfl
          try simp only [Act.put, List.setIfInBounds_toArray, List.set_cons_zero, List.set_cons_succ]
          refine wpAnyH_ready (rs := [18]) (by kernel_rfl) (by simp) ?_
          refine AllReadyH.cons (o := _) rfl (fun K hK => ?_) AllReadyH.nil
          go_simp
          refine (works_any _).mono ?_; rintro e wz ⟨rfl, hEz⟩
          have xz : Ext wd wz := (by repeat (with_reducible first | assumption | exact Ext.refl _ | refine Ext.drew ?_ | refine Ext.drewN ?_ _ | refine Ext.alloc ?_ _ | (refine Ext.setCell ?_ ?sz _; case sz => (first | (simp; done) | (simp; omega))) | refine Ext.trans ?_ (by assumption)))
          refine hK.out _ _ xz (fun hHeld => ?_)
          clear hK K
          try simp only [Act.put, List.setIfInBounds_toArray, List.set_cons_zero, List.set_cons_succ]
          refine wpAnyH_take (i := 19) (oi := _) (v := ?_) rfl (by kernel_rfl) (by kernel_rfl) (by kernel_rfl) (fun _ _ _ h => h) (Or.inl ⟨by rfl, ?yl⟩) (by assumption) ?_
          case yl => (intro w hSw; (try dsimp only at hSw); go_simp; (try simp only [x2])); with_reducible rfl
          try simp only [Act.put, List.setIfInBounds_toArray, List.set_cons_zero, List.set_cons_succ]
          refine wpAnyH_take (i := 20) (oi := _) (v := ?_) rfl (by kernel_rfl) (by kernel_rfl) (by kernel_rfl) (fun _ _ _ h => h) (Or.inl ⟨by rfl, ?yl⟩) (by assumption) ?_
          case yl => (intro w hSw; (try dsimp only at hSw); go_simp; (try simp only [x2])); with_reducible rfl
          try simp only [Act.put, List.setIfInBounds_toArray, List.set_cons_zero, List.set_cons_succ]
          refine wpAnyH_done (by kernel_rfl) ?_ _
          simp only [List.getElem_toArray, List.getElem_cons_succ, List.getElem_cons_zero, Act.put, List.setIfInBounds_toArray, List.set_cons_zero, List.set_cons_succ]
          go_wp2_with fail
          go_ret
          exact ⟨ret_bool (by simp), X.out.trans (by repeat (with_reducible first | assumption | exact Ext.refl _ | refine Ext.drew ?_ | refine Ext.drewN ?_ _ | refine Ext.alloc ?_ _ | (refine Ext.setCell ?_ ?sz _; case sz => (first | (simp; done) | (simp; omega))) | refine Ext.trans ?_ (by assumption)))⟩
      · clear D2 vw
        have k2 : Dl d t := hok2.out rfl
        clear hok2
        have hg2 : decide (x ≤ holds (meas d z2) t ∧ holds (meas d z2) t ≤ y) = false := by unfold outB at hG2; exact Bool.not_eq_true' _ ▸ hG2
        have b1 : (er == 0) = false := by simpa using e1
        have x1 : (er != 0) = true := by simpa using e1
        go_wp2_with fail
        (go_quiet (fail))
        go_wp2_with fail
        (go_region_held3 (fun w' => w'.cell? ⟨B, 0, none⟩ = some (.int .i64 d.L) ∧ w'.cell? ⟨B, 1, none⟩ = some (.int .i64 d.R) ∧ w'.cell? ⟨B, 2, none⟩ = some (.slice a d.rs.length cap) ∧ w'.cell? ⟨C, 0, none⟩ = some (.int .i64 x) ∧ w'.cell? ⟨C, 1, none⟩ = some (.int .i64 y) ∧ Ext wd w') (((try go_split_ands); (repeat' apply And.intro) <;> (first | (with_reducible assumption) | exact Ext.cell (w := wd) (by repeat (with_reducible first | assumption | exact Ext.refl _ | refine Ext.drew ?_ | refine Ext.drewN ?_ _ | refine Ext.alloc ?_ _ | (refine Ext.setCell ?_ ?sz _; case sz => (first | (simp; done) | (simp; omega))) | refine Ext.trans ?_ (by assumption))) (by assumption) | exact (by repeat (with_reducible first | assumption | exact Ext.refl _ | refine Ext.drew ?_ | refine Ext.drewN ?_ _ | refine Ext.alloc ?_ _ | (refine Ext.setCell ?_ ?sz _; case sz => (first | (simp; done) | (simp; omega))) | refine Ext.trans ?_ (by assumption)))))) (first | (go_at_call 50; refine (isTruth_any d a cap z2 a2 cp2 _ (S.out.i.ext (by repeat (with_reducible first | assumption | exact Ext.refl _ | refine Ext.drew ?_ | refine Ext.drewN ?_ _ | refine Ext.alloc ?_ _ | (refine Ext.setCell ?_ ?sz _; case sz => (first | (simp; done) | (simp; omega))) | refine Ext.trans ?_ (by assumption)))) hl' (hI2.ext (by repeat (with_reducible first | assumption | exact Ext.refl _ | refine Ext.drew ?_ | refine Ext.drewN ?_ _ | refine Ext.alloc ?_ _ | (refine Ext.setCell ?_ ?sz _; case sz => (first | (simp; done) | (simp; omega))) | refine Ext.trans ?_ (by assumption)))) (by omega)).mono ?_; rintro e wc2 ⟨rfl, hEc2⟩; rw [decide_eq_true hT2]) | (go_at_call 53; refine (measureR_any d a a2 cap _ cp2 _).mono ?_; rintro e we2 ⟨rfl, hEe2⟩) | (go_at_call 52; refine (holdsM_any d z2 (meas_vld k2.v hT2) a2 _ cp2 rfl t k2.t0 k2.t1 _ (hI2.ext (by repeat (with_reducible first | assumption | exact Ext.refl _ | refine Ext.drew ?_ | refine Ext.drewN ?_ _ | refine Ext.alloc ?_ _ | (refine Ext.setCell ?_ ?sz _; case sz => (first | (simp; done) | (simp; omega))) | refine Ext.trans ?_ (by assumption))))).mono ?_; rintro e wf2 ⟨rfl, hEf2⟩) | (go_at_call 51; refine (in_any x y _ _).mono ?_; rintro e wg2 ⟨rfl, hEg2⟩; rw [hg2]) | (go_at_call 18; refine (works_any _).mono ?_; rintro e wz ⟨rfl, hEz⟩)))
        go_wp2_with fail
        go_ret
        exact ⟨ret_bool (by simp), X.out.trans (by repeat (with_reducible first | assumption | exact Ext.refl _ | refine Ext.drew ?_ | refine Ext.drewN ?_ _ | refine Ext.alloc ?_ _ | (refine Ext.setCell ?_ ?sz _; case sz => (first | (simp; done) | (simp; omega))) | refine Ext.trans ?_ (by assumption)))⟩
    · clear D1 vr
      have k1 : Dl d t := hok1.out rfl
      clear hok1
      have hg1 : decide (x ≤ holds (meas d z1) t ∧ holds (meas d z1) t ≤ y) = true := hG1
      rcases D2.out with ⟨e2, rfl⟩ | ⟨rfl, z2, rfl, hI2, hT2, hG2⟩
      · clear D2 hok2
        have b2 : (ew == 0) = false := by simpa using e2
        have x2 : (ew != 0) = true := by simpa using e2
        go_wp2_with fail
        (go_region_held3 (fun w' => w'.cell? ⟨B, 0, none⟩ = some (.int .i64 d.L) ∧ w'.cell? ⟨B, 1, none⟩ = some (.int .i64 d.R) ∧ w'.cell? ⟨B, 2, none⟩ = some (.slice a d.rs.length cap) ∧ w'.cell? ⟨C, 0, none⟩ = some (.int .i64 x) ∧ w'.cell? ⟨C, 1, none⟩ = some (.int .i64 y) ∧ Ext wd w') (((try go_split_ands); (repeat' apply And.intro) <;> (first | (with_reducible assumption) | exact Ext.cell (w := wd) (by repeat (with_reducible first | assumption | exact Ext.refl _ | refine Ext.drew ?_ | refine Ext.drewN ?_ _ | refine Ext.alloc ?_ _ | (refine Ext.setCell ?_ ?sz _; case sz => (first | (simp; done) | (simp; omega))) | refine Ext.trans ?_ (by assumption))) (by assumption) | exact (by repeat (with_reducible first | assumption | exact Ext.refl _ | refine Ext.drew ?_ | refine Ext.drewN ?_ _ | refine Ext.alloc ?_ _ | (refine Ext.setCell ?_ ?sz _; case sz => (first | (simp; done) | (simp; omega))) | refine Ext.trans ?_ (by assumption)))))) (first | (go_at_call 50; refine (isTruth_any d a cap z1 a1 cp1 _ (S.out.i.ext (by repeat (with_reducible first | assumption | exact Ext.refl _ | refine Ext.drew ?_ | refine Ext.drewN ?_ _ | refine Ext.alloc ?_ _ | (refine Ext.setCell ?_ ?sz _; case sz => (first | (simp; done) | (simp; omega))) | refine Ext.trans ?_ (by assumption)))) hl' (hI1.ext (by repeat (with_reducible first | assumption | exact Ext.refl _ | refine Ext.drew ?_ | refine Ext.drewN ?_ _ | refine Ext.alloc ?_ _ | (refine Ext.setCell ?_ ?sz _; case sz => (first | (simp; done) | (simp; omega))) | refine Ext.trans ?_ (by assumption)))) (by omega)).mono ?_; rintro e wc1 ⟨rfl, hEc1⟩; rw [decide_eq_true hT1]) | (go_at_call 53; refine (measureR_any d a a1 cap _ cp1 _).mono ?_; rintro e we1 ⟨rfl, hEe1⟩) | (go_at_call 52; refine (holdsM_any d z1 (meas_vld k1.v hT1) a1 _ cp1 rfl t k1.t0 k1.t1 _ (hI1.ext (by repeat (with_reducible first | assumption | exact Ext.refl _ | refine Ext.drew ?_ | refine Ext.drewN ?_ _ | refine Ext.alloc ?_ _ | (refine Ext.setCell ?_ ?sz _; case sz => (first | (simp; done) | (simp; omega))) | refine Ext.trans ?_ (by assumption))))).mono ?_; rintro e wf1 ⟨rfl, hEf1⟩) | (go_at_call 51; refine (in_any x y _ _).mono ?_; rintro e wg1 ⟨rfl, hEg1⟩; rw [hg1])))
        go_wp2_with fail
        · refine wp_region_held_drew (S := fun w' => Ext wd w') (by kernel_rfl) ((by repeat (with_reducible first | assumption | exact Ext.refl _ | refine Ext.drew ?_ | refine Ext.drewN ?_ _ | refine Ext.alloc ?_ _ | (refine Ext.setCell ?_ ?sz _; case sz => (first | (simp; done) | (simp; omega))) | refine Ext.trans ?_ (by assumption))) : Ext wd _) fun hHeld => ?_
          refine wpAnyH_take (i := 0) (oi := _) (v := ?_) rfl (by kernel_rfl) (by kernel_rfl) (by kernel_rfl) (fun _ _ _ h => h) (Or.inl ⟨by rfl, ?yl⟩) (by assumption) ?_
          case yl => (intro w hSw; (try dsimp only at hSw); go_simp; (try simp only [x2])); with_reducible rfl
          try simp only [Act.put, List.setIfInBounds_toArray, List.set_cons_zero, List.set_cons_succ]
          refine wpAnyH_take (i := 1) (oi := _) (v := ?_) rfl (by kernel_rfl) (by kernel_rfl) (by kernel_rfl) (fun _ _ _ h => h) (Or.inl ⟨by rfl, ?yl⟩) (by assumption) ?_
          case yl => (intro w hSw; (try dsimp only at hSw); go_simp; (try simp only [x2])); with_reducible rfl
          try simp only [Act.put, List.setIfInBounds_toArray, List.set_cons_zero, List.set_cons_succ]
          refine wpAnyH_take (i := 2) (oi := _) (v := ?_) rfl (by kernel_rfl) (by kernel_rfl) (by kernel_rfl) (fun _ _ _ h => h) (Or.inl ⟨by rfl, ?yl⟩) (by assumption) ?_
          case yl => (intro w hSw; (try dsimp only at hSw); go_simp; (try simp only [x2])); with_reducible rfl
          try simp only [Act.put, List.setIfInBounds_toArray, List.set_cons_zero, List.set_cons_succ]
          refine wpAnyH_take (i := 3) (oi := _) (v := undef) rfl (by kernel_rfl) (by kernel_rfl) (by kernel_rfl) (fun _ _ _ h => h) (Or.inr ⟨by kernel_rfl, rfl⟩) (by assumption) ?_
          try simp only [Act.put, List.setIfInBounds_toArray, List.set_cons_zero, List.set_cons_succ]
          refine wpAnyH_take (i := 4) (oi := _) (v := undef) rfl (by kernel_rfl) (by kernel_rfl) (by kernel_rfl) (fun _ _ _ h => h) (Or.inr ⟨by kernel_rfl, rfl⟩) (by assumption) ?_
          try simp only [Act.put, List.setIfInBounds_toArray, List.set_cons_zero, List.set_cons_succ]
          refine wpAnyH_take (i := 5) (oi := _) (v := undef) rfl (by kernel_rfl) (by kernel_rfl) (by kernel_rfl) (fun _ _ _ h => h) (Or.inr ⟨by kernel_rfl, rfl⟩) (by assumption) ?_
          try simp only [Act.put, List.setIfInBounds_toArray, List.set_cons_zero, List.set_cons_succ]
          refine wpAnyH_take (i := 6) (oi := _) (v := undef) rfl (by kernel_rfl) (by kernel_rfl) (by kernel_rfl) (fun _ _ _ h => h) (Or.inr ⟨by kernel_rfl, rfl⟩) (by assumption) ?_
          try simp only [Act.put, List.setIfInBounds_toArray, List.set_cons_zero, List.set_cons_succ]
          refine wpAnyH_take (i := 7) (oi := _) (v := undef) rfl (by kernel_rfl) (by kernel_rfl) (by kernel_rfl) (fun _ _ _ h => h) (Or.inr ⟨by kernel_rfl, rfl⟩) (by assumption) ?_
          try simp only [Act.put, List.setIfInBounds_toArray, List.set_cons_zero, List.set_cons_succ]
          refine wpAnyH_take (i := 8) (oi := _) (v := undef) rfl (by kernel_rfl) (by kernel_rfl) (by kernel_rfl) (fun _ _ _ h => h) (Or.inr ⟨by kernel_rfl, rfl⟩) (by assumption) ?_
          try simp only [Act.put, List.setIfInBounds_toArray, List.set_cons_zero, List.set_cons_succ]
          refine wpAnyH_take (i := 9) (oi := _) (v := undef) rfl (by kernel_rfl) (by kernel_rfl) (by kernel_rfl) (fun _ _ _ h => h) (Or.inr ⟨by kernel_rfl, rfl⟩) (by assumption) ?_
          try simp only [Act.put, List.setIfInBounds_toArray, List.set_cons_zero, List.set_cons_succ]
          refine wpAnyH_take (i := 10) (oi := _) (v := undef) rfl (by kernel_rfl) (by kernel_rfl) (by kernel_rfl) (fun _ _ _ h => h) (Or.inr ⟨by kernel_rfl, rfl⟩) (by assumption) ?_
          try simp only [Act.put, List.setIfInBounds_toArray, List.set_cons_zero, List.set_cons_succ]
          refine wpAnyH_take (i := 11) (oi := _) (v := undef) rfl (by kernel_rfl) (by kernel_rfl) (by kernel_rfl) (fun _ _ _ h => h) (Or.inr ⟨by kernel_rfl, rfl⟩) (by assumption) ?_
          try simp only [Act.put, List.setIfInBounds_toArray, List.set_cons_zero, List.set_cons_succ]
          refine wpAnyH_take (i := 12) (oi := _) (v := undef) rfl (by kernel_rfl) (by kernel_rfl) (by kernel_rfl) (fun _ _ _ h => h) (Or.inr ⟨by kernel_rfl, rfl⟩) (by assumption) ?_
          try simp only [Act.put, List.setIfInBounds_toArray, List.set_cons_zero, List.set_cons_succ]
          refine wpAnyH_take (i := 13) (oi := _) (v := undef) rfl (by kernel_rfl) (by kernel_rfl) (by kernel_rfl) (fun _ _ _ h => h) (Or.inr ⟨by kernel_rfl, rfl⟩) (by assumption) ?_
          try simp only [Act.put, List.setIfInBounds_toArray, List.set_cons_zero, List.set_cons_succ]
          refine wpAnyH_take (i := 14) (oi := _) (v := undef) rfl (by kernel_rfl) (by kernel_rfl) (by kernel_rfl) (fun _ _ _ h => h) (Or.inr ⟨by kernel_rfl, rfl⟩) (by assumption) ?_
          try simp only [Act.put, List.setIfInBounds_toArray, List.set_cons_zero, List.set_cons_succ]
          refine wpAnyH_take (i := 15) (oi := _) (v := undef) rfl (by kernel_rfl) (by kernel_rfl) (by kernel_rfl) (fun _ _ _ h => h) (Or.inr ⟨by kernel_rfl, rfl⟩) (by assumption) ?_
          try simp only [Act.put, List.setIfInBounds_toArray, List.set_cons_zero, List.set_cons_succ]
          refine wpAnyH_take (i := 16) (oi := _) (v := ?_) rfl (by kernel_rfl) (by kernel_rfl) (by kernel_rfl) (fun _ _ _ h => h) (Or.inl ⟨by rfl, ?yl⟩) (by assumption) ?_
          case yl => (intro w hSw; (try dsimp only at hSw); go_simp; (try simp only [x2])); with_reducible rfl
          try simp only [Act.put, List.setIfInBounds_toArray, List.set_cons_zero, List.set_cons_succ]
          refine wpAnyH_take (i := 17) (oi := _) (v := ?_) rfl (by kernel_rfl) (by kernel_rfl) (by kernel_rfl) (fun _ _ _ h => h) (Or.inl ⟨by rfl, ?yl⟩) (by assumption) ?_
          case yl => (intro w hSw; (try dsimp only at hSw); go_simp; (try simp only [x2])); with_reducible rfl
          try simp only [Act.put, List.setIfInBounds_toArray, List.set_cons_zero, List.set_cons_succ]
          refine wpAnyH_ready (rs := [18]) (by kernel_rfl) (by simp) ?_
          refine AllReadyH.cons (o := _) rfl (fun K hK => ?_) AllReadyH.nil
          go_simp
          refine (works_any _).mono ?_; rintro e wz ⟨rfl, hEz⟩
          have xz : Ext wd wz := (by repeat (with_reducible first | assumption | exact Ext.refl _ | refine Ext.drew ?_ | refine Ext.drewN ?_ _ | refine Ext.alloc ?_ _ | (refine Ext.setCell ?_ ?sz _; case sz => (first | (simp; done) | (simp; omega))) | refine Ext.trans ?_ (by assumption)))
          refine hK.out _ _ xz (fun hHeld => ?_)
          clear hK K
          try simp only [Act.put, List.setIfInBounds_toArray, List.set_cons_zero, List.set_cons_succ]
          refine wpAnyH_take (i := 19) (oi := _) (v := ?_) rfl (by kernel_rfl) (by kernel_rfl) (by kernel_rfl) (fun _ _ _ h => h) (Or.inl ⟨by rfl, ?yl⟩) (by assumption) ?_
          case yl => (intro w hSw; (try dsimp only at hSw); go_simp; (try simp only [x2])); with_reducible rfl
          try simp only [Act.put, List.setIfInBounds_toArray, List.set_cons_zero, List.set_cons_succ]
          refine wpAnyH_take (i := 20) (oi := _) (v := ?_) rfl (by kernel_rfl) (by kernel_rfl) (by kernel_rfl) (fun _ _ _ h => h) (Or.inl ⟨by rfl, ?yl⟩) (by assumption) ?_
          case yl => (intro w hSw; (try dsimp only at hSw); go_simp; (try simp only [x2])); with_reducible rfl
          try simp only [Act.put, List.setIfInBounds_toArray, List.set_cons_zero, List.set_cons_succ]
          refine wpAnyH_done (by kernel_rfl) ?_ _
          simp only [List.getElem_toArray, List.getElem_cons_succ, List.getElem_cons_zero, Act.put, List.setIfInBounds_toArray, List.set_cons_zero, List.set_cons_succ]
          go_wp2_with fail
          go_ret
          exact ⟨ret_bool (by simp), X.out.trans (by repeat (with_reducible first | assumption | exact Ext.refl _ | refine Ext.drew ?_ | refine Ext.drewN ?_ _ | refine Ext.alloc ?_ _ | (refine Ext.setCell ?_ ?sz _; case sz => (first | (simp; done) | (simp; omega))) | refine Ext.trans ?_ (by assumption)))⟩
      · clear D2 vw
        have k2 : Dl d t := hok2.out rfl
        clear hok2
        have hg2 : decide (x ≤ holds (meas d z2) t ∧ holds (meas d z2) t ≤ y) = false := by unfold outB at hG2; exact Bool.not_eq_true' _ ▸ hG2
        go_wp2_with fail
        (go_region_held3 (fun w' => w'.cell? ⟨B, 0, none⟩ = some (.int .i64 d.L) ∧ w'.cell? ⟨B, 1, none⟩ = some (.int .i64 d.R) ∧ w'.cell? ⟨B, 2, none⟩ = some (.slice a d.rs.length cap) ∧ w'.cell? ⟨C, 0, none⟩ = some (.int .i64 x) ∧ w'.cell? ⟨C, 1, none⟩ = some (.int .i64 y) ∧ Ext wd w') (((try go_split_ands); (repeat' apply And.intro) <;> (first | (with_reducible assumption) | exact Ext.cell (w := wd) (by repeat (with_reducible first | assumption | exact Ext.refl _ | refine Ext.drew ?_ | refine Ext.drewN ?_ _ | refine Ext.alloc ?_ _ | (refine Ext.setCell ?_ ?sz _; case sz => (first | (simp; done) | (simp; omega))) | refine Ext.trans ?_ (by assumption))) (by assumption) | exact (by repeat (with_reducible first | assumption | exact Ext.refl _ | refine Ext.drew ?_ | refine Ext.drewN ?_ _ | refine Ext.alloc ?_ _ | (refine Ext.setCell ?_ ?sz _; case sz => (first | (simp; done) | (simp; omega))) | refine Ext.trans ?_ (by assumption)))))) (first | (go_at_call 50; refine (isTruth_any d a cap z1 a1 cp1 _ (S.out.i.ext (by repeat (with_reducible first | assumption | exact Ext.refl _ | refine Ext.drew ?_ | refine Ext.drewN ?_ _ | refine Ext.alloc ?_ _ | (refine Ext.setCell ?_ ?sz _; case sz => (first | (simp; done) | (simp; omega))) | refine Ext.trans ?_ (by assumption)))) hl' (hI1.ext (by repeat (with_reducible first | assumption | exact Ext.refl _ | refine Ext.drew ?_ | refine Ext.drewN ?_ _ | refine Ext.alloc ?_ _ | (refine Ext.setCell ?_ ?sz _; case sz => (first | (simp; done) | (simp; omega))) | refine Ext.trans ?_ (by assumption)))) (by omega)).mono ?_; rintro e wc1 ⟨rfl, hEc1⟩; rw [decide_eq_true hT1]) | (go_at_call 53; refine (measureR_any d a a1 cap _ cp1 _).mono ?_; rintro e we1 ⟨rfl, hEe1⟩) | (go_at_call 52; refine (holdsM_any d z1 (meas_vld k1.v hT1) a1 _ cp1 rfl t k1.t0 k1.t1 _ (hI1.ext (by repeat (with_reducible first | assumption | exact Ext.refl _ | refine Ext.drew ?_ | refine Ext.drewN ?_ _ | refine Ext.alloc ?_ _ | (refine Ext.setCell ?_ ?sz _; case sz => (first | (simp; done) | (simp; omega))) | refine Ext.trans ?_ (by assumption))))).mono ?_; rintro e wf1 ⟨rfl, hEf1⟩) | (go_at_call 51; refine (in_any x y _ _).mono ?_; rintro e wg1 ⟨rfl, hEg1⟩; rw [hg1])))
        go_wp2_with fail
        (go_region_held3 (fun w' => w'.cell? ⟨B, 0, none⟩ = some (.int .i64 d.L) ∧ w'.cell? ⟨B, 1, none⟩ = some (.int .i64 d.R) ∧ w'.cell? ⟨B, 2, none⟩ = some (.slice a d.rs.length cap) ∧ w'.cell? ⟨C, 0, none⟩ = some (.int .i64 x) ∧ w'.cell? ⟨C, 1, none⟩ = some (.int .i64 y) ∧ Ext wd w') (((try go_split_ands); (repeat' apply And.intro) <;> (first | (with_reducible assumption) | exact Ext.cell (w := wd) (by repeat (with_reducible first | assumption | exact Ext.refl _ | refine Ext.drew ?_ | refine Ext.drewN ?_ _ | refine Ext.alloc ?_ _ | (refine Ext.setCell ?_ ?sz _; case sz => (first | (simp; done) | (simp; omega))) | refine Ext.trans ?_ (by assumption))) (by assumption) | exact (by repeat (with_reducible first | assumption | exact Ext.refl _ | refine Ext.drew ?_ | refine Ext.drewN ?_ _ | refine Ext.alloc ?_ _ | (refine Ext.setCell ?_ ?sz _; case sz => (first | (simp; done) | (simp; omega))) | refine Ext.trans ?_ (by assumption)))))) (first | (go_at_call 50; refine (isTruth_any d a cap z2 a2 cp2 _ (S.out.i.ext (by repeat (with_reducible first | assumption | exact Ext.refl _ | refine Ext.drew ?_ | refine Ext.drewN ?_ _ | refine Ext.alloc ?_ _ | (refine Ext.setCell ?_ ?sz _; case sz => (first | (simp; done) | (simp; omega))) | refine Ext.trans ?_ (by assumption)))) hl' (hI2.ext (by repeat (with_reducible first | assumption | exact Ext.refl _ | refine Ext.drew ?_ | refine Ext.drewN ?_ _ | refine Ext.alloc ?_ _ | (refine Ext.setCell ?_ ?sz _; case sz => (first | (simp; done) | (simp; omega))) | refine Ext.trans ?_ (by assumption)))) (by omega)).mono ?_; rintro e wc2 ⟨rfl, hEc2⟩; rw [decide_eq_true hT2]) | (go_at_call 53; refine (measureR_any d a a2 cap _ cp2 _).mono ?_; rintro e we2 ⟨rfl, hEe2⟩) | (go_at_call 52; refine (holdsM_any d z2 (meas_vld k2.v hT2) a2 _ cp2 rfl t k2.t0 k2.t1 _ (hI2.ext (by repeat (with_reducible first | assumption | exact Ext.refl _ | refine Ext.drew ?_ | refine Ext.drewN ?_ _ | refine Ext.alloc ?_ _ | (refine Ext.setCell ?_ ?sz _; case sz => (first | (simp; done) | (simp; omega))) | refine Ext.trans ?_ (by assumption))))).mono ?_; rintro e wf2 ⟨rfl, hEf2⟩) | (go_at_call 51; refine (in_any x y _ _).mono ?_; rintro e wg2 ⟨rfl, hEg2⟩; rw [hg2]) | (go_at_call 18; refine (works_any _).mono ?_; rintro e wz ⟨rfl, hEz⟩)))
        go_wp2_with fail
        go_ret
        exact ⟨ret_bool (by simp), X.out.trans (by repeat (with_reducible first | assumption | exact Ext.refl _ | refine Ext.drew ?_ | refine Ext.drewN ?_ _ | refine Ext.alloc ?_ _ | (refine Ext.setCell ?_ ?sz _; case sz => (first | (simp; done) | (simp; omega))) | refine Ext.trans ?_ (by assumption)))⟩

end Go.Proofs.Ytogglbhidlnijaa
