/- The law PintSpans, walked. -/
import Derived.Test.YtogglbhidlnijaaWorksB
namespace Go.Proofs.Ytogglbhidlnijaa
set_option linter.unusedVariables false
set_option linter.unusedSimpArgs false
set_option linter.unusedSectionVars false
set_option linter.unnecessarySimpa false
open Go Go.RowKit
set_option maxRecDepth 100000

structure DS (B C : Nat) (d : Dent) (a : Option Addr) (cap : Nat) (x y : Int) (w : World) : Prop where
  m0 : w.cell? ⟨B, 0, none⟩ = some (.int .i64 d.L)
  m1 : w.cell? ⟨B, 1, none⟩ = some (.int .i64 d.R)
  m2 : w.cell? ⟨B, 2, none⟩ = some (.slice a d.rs.length cap)
  x0 : w.cell? ⟨C, 0, none⟩ = some (.int .i64 x)
  x1 : w.cell? ⟨C, 1, none⟩ = some (.int .i64 y)
  i : Prs w a d.rs
theorem DS.ext {B C : Nat} {d : Dent} {a : Option Addr} {cap : Nat} {x y : Int} {w w' : World} (h : DS B C d a cap x y w) (k : Ext w w') : DS B C d a cap x y w' :=
  ⟨k.cell h.m0, k.cell h.m1, k.cell h.m2, k.cell h.x0, k.cell h.x1, h.i.ext k⟩


set_option maxHeartbeats 8000000 in
theorem pintSpans_any (d : Dent) (q : FitD d) (a : Option Addr) (cap : Nat) (t x y : Int) (w : World) (hI : Prs w a d.rs) (hl : d.rs.length ≤ 9223372036854775807) (ht : I64 t) (hx : I64 x) (hy : I64 y) :
    Calls Try.prog 5 #[(.agg #[.int .i64 d.L, .int .i64 d.R, .slice a d.rs.length cap]), .int .i64 t, .agg #[.int .i64 x, .int .i64 y]] w fun e w' => e = .returned (.bool true) ∧ Ext w w' := by
  have hB : Ext w ((w.alloc (.cells #[.int .i64 d.L, .int .i64 d.R, .slice a d.rs.length cap] 50)).alloc (.cells #[.int .i64 x, .int .i64 y] 52)) := (by repeat (with_reducible first | assumption | exact Ext.refl _ | refine Ext.drew ?_ | refine Ext.drewN ?_ _ | refine Ext.alloc ?_ _ | (refine Ext.setCell ?_ ?sz _; case sz => (first | (simp; done) | (simp; omega))) | refine Ext.trans ?_ (by assumption)))
  by_cases g : 10 < d.rs.length
  · have hd : decide (10 < d.rs.length) = true := by simpa using g
    go_enter Try.func5, Try.ntmps5
    go_wp2_with fail
    refine (wide_any d a cap _ hl).mono ?_; rintro e w1 ⟨rfl, hE⟩
    rw [hd]
    go_wp2_with fail
    refine (works_any _).mono ?_; rintro e w2 ⟨rfl, hE2⟩
    go_wp2_with fail
    go_ret
    exact ⟨rfl, (by repeat (with_reducible first | assumption | exact Ext.refl _ | refine Ext.drew ?_ | refine Ext.drewN ?_ _ | refine Ext.alloc ?_ _ | (refine Ext.setCell ?_ ?sz _; case sz => (first | (simp; done) | (simp; omega))) | refine Ext.trans ?_ (by assumption)))⟩
  · have hd : decide (10 < d.rs.length) = false := by simpa using g
    have hl' : d.rs.length ≤ 1000 := by omega
    go_enter Try.func5, Try.ntmps5
    go_wp2_with fail
    refine (wide_any d a cap _ hl).mono ?_; rintro e w1 ⟨rfl, hE⟩
    rw [hd]
    have X : Hid (Ext w w1) := hid (by repeat (with_reducible first | assumption | exact Ext.refl _ | refine Ext.drew ?_ | refine Ext.drewN ?_ _ | refine Ext.alloc ?_ _ | (refine Ext.setCell ?_ ?sz _; case sz => (first | (simp; done) | (simp; omega))) | refine Ext.trans ?_ (by assumption)))
    have S : DS w.heap.size (w.heap.size + 1) d a cap x y w1 := ⟨hE.cell (by simp [go_sem]), hE.cell (by simp [go_sem]), hE.cell (by simp [go_sem]), hE.cell (by simp [go_sem]), hE.cell (by simp [go_sem]), hI.ext (by repeat (with_reducible first | assumption | exact Ext.refl _ | refine Ext.drew ?_ | refine Ext.drewN ?_ _ | refine Ext.alloc ?_ _ | (refine Ext.setCell ?_ ?sz _; case sz => (first | (simp; done) | (simp; omega))) | refine Ext.trans ?_ (by assumption)))⟩
    generalize w.heap.size + 1 = C at *
    generalize w.heap.size = B at *
    replace S := hid S
    clear hE hB hI hd
    have m0 := S.out.m0; have m1 := S.out.m1; have m2 := S.out.m2; have x0 := S.out.x0; have x1 := S.out.x1
    go_wp2_with fail
    refine (span_any d q a cap t _ S.out.i hl' ht).mono ?_; rintro e w2 ⟨rfl, hE⟩
    (have x : Ext w1 w2 := (by repeat (with_reducible first | assumption | exact Ext.refl _ | refine Ext.drew ?_ | refine Ext.drewN ?_ _ | refine Ext.alloc ?_ _ | (refine Ext.setCell ?_ ?sz _; case sz => (first | (simp; done) | (simp; omega))) | refine Ext.trans ?_ (by assumption))); replace S := hid (S.out.ext x); replace X := hid (X.out.trans x); clear x hE m0 m1 m2 x0 x1; have m0 := S.out.m0; have m1 := S.out.m1; have m2 := S.out.m2; have x0 := S.out.x0; have x1 := S.out.x1; have bB := cell_lt m0; have bC := cell_lt x0; simp only at bB bC; go_wp2_with fail)
    refine (spanR_any d q a cap t _ (S.out.i.ext (by repeat (with_reducible first | assumption | exact Ext.refl _ | refine Ext.drew ?_ | refine Ext.drewN ?_ _ | refine Ext.alloc ?_ _ | (refine Ext.setCell ?_ ?sz _; case sz => (first | (simp; done) | (simp; omega))) | refine Ext.trans ?_ (by assumption)))) hl').mono ?_; rintro e w3 ⟨rfl, hE⟩
    have f0 : w3.cell? ⟨w2.heap.size, 0, none⟩ = some (.int .i64 (spanLoOf d t)) := hE.cell (by simp [go_sem])
    have f1 : w3.cell? ⟨w2.heap.size, 1, none⟩ = some (.int .i64 (spanHiOf d t)) := hE.cell (by simp [go_sem])
    have F : Hid (w3.cell? ⟨w2.heap.size, 0, none⟩ = some (.int .i64 (spanLoOf d t)) ∧ w3.cell? ⟨w2.heap.size, 1, none⟩ = some (.int .i64 (spanHiOf d t))) := hid ⟨f0, f1⟩
    clear bB bC f0 f1
    (have x : Ext w2 w3 := (by repeat (with_reducible first | assumption | exact Ext.refl _ | refine Ext.drew ?_ | refine Ext.drewN ?_ _ | refine Ext.alloc ?_ _ | (refine Ext.setCell ?_ ?sz _; case sz => (first | (simp; done) | (simp; omega))) | refine Ext.trans ?_ (by assumption))); replace S := hid (S.out.ext x); replace X := hid (X.out.trans x); clear x hE m0 m1 m2 x0 x1; have m0 := S.out.m0; have m1 := S.out.m1; have m2 := S.out.m2; have x0 := S.out.x0; have x1 := S.out.x1; have bB := cell_lt m0; have bC := cell_lt x0; simp only at bB bC; go_wp2_with fail)
    refine (seal_any d q a cap t x y _ (S.out.i.ext (by repeat (with_reducible first | assumption | exact Ext.refl _ | refine Ext.drew ?_ | refine Ext.drewN ?_ _ | refine Ext.alloc ?_ _ | (refine Ext.setCell ?_ ?sz _; case sz => (first | (simp; done) | (simp; omega))) | refine Ext.trans ?_ (by assumption)))) hl' ht hx hy).mono ?_; rintro e w4 ⟨rfl, hE⟩
    have g0 : w4.cell? ⟨w3.heap.size, 0, none⟩ = some (.int .i64 (spanLoOf d t)) := hE.cell (by simp [go_sem])
    have g1 : w4.cell? ⟨w3.heap.size, 1, none⟩ = some (.int .i64 (spanHiOf d t)) := hE.cell (by simp [go_sem])
    have xx : Ext w3 w4 := (by repeat (with_reducible first | assumption | exact Ext.refl _ | refine Ext.drew ?_ | refine Ext.drewN ?_ _ | refine Ext.alloc ?_ _ | (refine Ext.setCell ?_ ?sz _; case sz => (first | (simp; done) | (simp; omega))) | refine Ext.trans ?_ (by assumption)))
    replace F := hid (And.intro (xx.cell F.out.1) (xx.cell F.out.2))
    have G : Hid (w4.cell? ⟨w3.heap.size, 0, none⟩ = some (.int .i64 (spanLoOf d t)) ∧ w4.cell? ⟨w3.heap.size, 1, none⟩ = some (.int .i64 (spanHiOf d t))) := hid ⟨g0, g1⟩
    clear bB bC g0 g1 xx
    (have x : Ext w3 w4 := (by repeat (with_reducible first | assumption | exact Ext.refl _ | refine Ext.drew ?_ | refine Ext.drewN ?_ _ | refine Ext.alloc ?_ _ | (refine Ext.setCell ?_ ?sz _; case sz => (first | (simp; done) | (simp; omega))) | refine Ext.trans ?_ (by assumption))); replace S := hid (S.out.ext x); replace X := hid (X.out.trans x); clear x hE m0 m1 m2 x0 x1; have m0 := S.out.m0; have m1 := S.out.m1; have m2 := S.out.m2; have x0 := S.out.x0; have x1 := S.out.x1; have bB := cell_lt m0; have bC := cell_lt x0; simp only at bB bC; go_wp2_with fail)
    refine (sealR_any d q a cap t x y _ (S.out.i.ext (by repeat (with_reducible first | assumption | exact Ext.refl _ | refine Ext.drew ?_ | refine Ext.drewN ?_ _ | refine Ext.alloc ?_ _ | (refine Ext.setCell ?_ ?sz _; case sz => (first | (simp; done) | (simp; omega))) | refine Ext.trans ?_ (by assumption)))) hl').mono ?_; rintro e w5 ⟨rfl, hE⟩
    have xx : Ext w4 w5 := (by repeat (with_reducible first | assumption | exact Ext.refl _ | refine Ext.drew ?_ | refine Ext.drewN ?_ _ | refine Ext.alloc ?_ _ | (refine Ext.setCell ?_ ?sz _; case sz => (first | (simp; done) | (simp; omega))) | refine Ext.trans ?_ (by assumption)))
    replace F := hid (And.intro (xx.cell F.out.1) (xx.cell F.out.2))
    replace G := hid (And.intro (xx.cell G.out.1) (xx.cell G.out.2))
    clear bB bC xx
    (have x : Ext w4 w5 := (by repeat (with_reducible first | assumption | exact Ext.refl _ | refine Ext.drew ?_ | refine Ext.drewN ?_ _ | refine Ext.alloc ?_ _ | (refine Ext.setCell ?_ ?sz _; case sz => (first | (simp; done) | (simp; omega))) | refine Ext.trans ?_ (by assumption))); replace S := hid (S.out.ext x); replace X := hid (X.out.trans x); clear x hE m0 m1 m2 x0 x1; have m0 := S.out.m0; have m1 := S.out.m1; have m2 := S.out.m2; have x0 := S.out.x0; have x1 := S.out.x1; have bB := cell_lt m0; have bC := cell_lt x0; simp only at bB bC; go_wp2_with fail)
    obtain ⟨f0, f1⟩ := F.out
    obtain ⟨g0, g1⟩ := G.out
    try simp only [List.append_eq, List.cons_append, List.nil_append]
    go_region_held3 (fun w' => w'.cell? ⟨B, 0, none⟩ = some (.int .i64 d.L) ∧ w'.cell? ⟨B, 1, none⟩ = some (.int .i64 d.R) ∧ w'.cell? ⟨B, 2, none⟩ = some (.slice a d.rs.length cap) ∧ w'.cell? ⟨w2.heap.size, 0, none⟩ = some (.int .i64 (spanLoOf d t)) ∧ w'.cell? ⟨w2.heap.size, 1, none⟩ = some (.int .i64 (spanHiOf d t)) ∧ w'.cell? ⟨w3.heap.size, 0, none⟩ = some (.int .i64 (spanLoOf d t)) ∧ w'.cell? ⟨w3.heap.size, 1, none⟩ = some (.int .i64 (spanHiOf d t)) ∧ Ext w5 w') (((try go_split_ands); (repeat' apply And.intro) <;> (first | (with_reducible assumption) | exact Ext.cell (w := w5) (by repeat (with_reducible first | assumption | exact Ext.refl _ | refine Ext.drew ?_ | refine Ext.drewN ?_ _ | refine Ext.alloc ?_ _ | (refine Ext.setCell ?_ ?sz _; case sz => (first | (simp; done) | (simp; omega))) | refine Ext.trans ?_ (by assumption))) (by assumption) | exact (by repeat (with_reducible first | assumption | exact Ext.refl _ | refine Ext.drew ?_ | refine Ext.drewN ?_ _ | refine Ext.alloc ?_ _ | (refine Ext.setCell ?_ ?sz _; case sz => (first | (simp; done) | (simp; omega))) | refine Ext.trans ?_ (by assumption)))))) (first | (go_at_call 44; refine (checkDented_any d q a cap _ (S.out.i.ext (by repeat (with_reducible first | assumption | exact Ext.refl _ | refine Ext.drew ?_ | refine Ext.drewN ?_ _ | refine Ext.alloc ?_ _ | (refine Ext.setCell ?_ ?sz _; case sz => (first | (simp; done) | (simp; omega))) | refine Ext.trans ?_ (by assumption)))) hl').mono ?_; rintro e wc ⟨rfl, hEc⟩) | (go_at_call 45; refine (checkDentedR_any d q a cap _ (S.out.i.ext (by repeat (with_reducible first | assumption | exact Ext.refl _ | refine Ext.drew ?_ | refine Ext.drewN ?_ _ | refine Ext.alloc ?_ _ | (refine Ext.setCell ?_ ?sz _; case sz => (first | (simp; done) | (simp; omega))) | refine Ext.trans ?_ (by assumption)))) hl').mono ?_; rintro e wd ⟨rfl, hEd⟩) | (go_at_call 18; refine (works_any _).mono ?_; rintro e wg ⟨rfl, hEg⟩))
    all_goals
      go_wp2_with fail
      go_ret
      exact ⟨ret_bool (by simp), X.out.trans (by repeat (with_reducible first | assumption | exact Ext.refl _ | refine Ext.drew ?_ | refine Ext.drewN ?_ _ | refine Ext.alloc ?_ _ | (refine Ext.setCell ?_ ?sz _; case sz => (first | (simp; done) | (simp; omega))) | refine Ext.trans ?_ (by assumption)))⟩

end Go.Proofs.Ytogglbhidlnijaa
