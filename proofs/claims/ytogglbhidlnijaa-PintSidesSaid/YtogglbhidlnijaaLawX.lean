/- The law PintTurned, walked. -/
import Derived.Test.YtogglbhidlnijaaLawB
import Derived.Test.YtogglbhidlnijaaMemC
import Derived.Test.YtogglbhidlnijaaPlainE
import Derived.Test.YtogglbhidlnijaaOrd
import Derived.IntWalk
import Derived.BigQuiet
import Derived.Deep.QuietTactic
namespace Go.Proofs.Ytogglbhidlnijaa
set_option linter.unusedVariables false
set_option linter.unusedSimpArgs false
set_option linter.unusedSectionVars false
set_option linter.unnecessarySimpa false
open Go Go.RowKit
set_option maxRecDepth 100000


/-- What the law's depths returns: a list, and that it is fine. -/
def RetLst (l : List Int) (w : World) (e : Ending) (w' : World) : Prop :=
  ∃ a n cap h, e = .returned (.tuple #[.slice a n cap, .int .i64 h, .bool true]) ∧ n = l.length ∧ Ints w' a l ∧ Ext w w'
theorem depthsN_any (m : Meas) (v : Vld m) (x y : Int) (hx : x = m.L) (hy : y = m.R) (a : Option Addr) (n cap : Nat) (hn : n = m.hs.length) (t : Int) (h0 : -20 ≤ t) (h1 : t ≤ 20) (w : World) (hI : Ints w a m.hs) :
    Calls Try.prog 56 #[.agg #[.int .i64 x, .int .i64 y, .slice a n cap], .int .i64 t] w (RetLst (depths m t) w) := by
  subst hx hy hn
  exact (depthsL_any m v a cap t h0 h1 w hI).mono fun _ _ ⟨b, c, h1, h2, h3⟩ => ⟨b, _, c, _, h1, (depths_len m t).symm, h2, h3⟩
theorem overN_any (m : Meas) (q : Fit m) (x y : Int) (hx : x = m.L) (hy : y = m.R) (a : Option Addr) (n cap : Nat) (hn : n = m.hs.length) (t i : Int) (w : World) (hI : Ints w a m.hs) (hl : m.hs.length ≤ 1000) (ht : I64 t) (hi : I64 i) :
    Calls Try.prog 23 #[.agg #[.int .i64 x, .int .i64 y, .slice a n cap], .int .i64 t, .int .i64 i] w fun e w' => e = .returned (.tuple #[.int .i64 (overOf m t i), .int .i64 (overE m t i)]) ∧ Ext w w' := by
  subst hx hy hn
  exact over_any m q a cap t i w hI hl ht hi
theorem elemI64x : ElemI Try.prog 2 := elemI_mk (by kernel_rfl)

set_option maxHeartbeats 8000000 in
theorem pintTurned_any (m : Meas) (q : Fit m) (a : Option Addr) (cap : Nat) (tn wi : Int) (w : World) (hI : Ints w a m.hs) (hl : m.hs.length ≤ 9223372036854775807) (ht : -128 ≤ tn ∧ tn ≤ 127) (hwi : 0 ≤ wi ∧ wi ≤ 255) :
    Calls Try.prog 9 #[(.agg #[.int .i64 m.L, .int .i64 m.R, .slice a m.hs.length cap]), .int .i8 tn, .int .u8 wi] w fun e w' => e = .returned (.bool true) ∧ Ext w w' := by
  have hB := (Ext.refl w).alloc (.cells #[.int .i64 m.L, .int .i64 m.R, .slice a m.hs.length cap] 24)
  by_cases v : Vld m
  case neg =>
    go_enter Try.func9, Try.ntmps9
    go_wp2_with fail
    refine (fine_no m q v a cap _ (hI.ext (by repeat (with_reducible first | assumption | exact Ext.refl _ | refine Ext.drew ?_ | refine Ext.drewN ?_ _ | refine Ext.alloc ?_ _ | (refine Ext.setCell ?_ ?sz _; case sz => (first | (simp; done) | (simp; omega))) | refine Ext.trans ?_ (by assumption)))) hl).mono ?_; rintro e w1 ⟨rfl, hE⟩
    go_wp2_with fail
    refine (works_any _).mono ?_; rintro e w2 ⟨rfl, hE2⟩
    go_wp2_with fail
    go_ret
    exact ⟨rfl, (by repeat (with_reducible first | assumption | exact Ext.refl _ | refine Ext.drew ?_ | refine Ext.drewN ?_ _ | refine Ext.alloc ?_ _ | (refine Ext.setCell ?_ ?sz _; case sz => (first | (simp; done) | (simp; omega))) | refine Ext.trans ?_ (by assumption)))⟩
  case pos =>
    have n1 := v.n1
    have n8 := v.n8
    have hl' : m.hs.length ≤ 1000 := by omega
    go_enter Try.func9, Try.ntmps9
    go_wp2_with fail
    refine (fine_yes m v a cap _ (hI.ext (by repeat (with_reducible first | assumption | exact Ext.refl _ | refine Ext.drew ?_ | refine Ext.drewN ?_ _ | refine Ext.alloc ?_ _ | (refine Ext.setCell ?_ ?sz _; case sz => (first | (simp; done) | (simp; omega))) | refine Ext.trans ?_ (by assumption))))).mono ?_; rintro e w1 ⟨rfl, hE⟩
    have X : Hid (Ext w w1) := hid (by repeat (with_reducible first | assumption | exact Ext.refl _ | refine Ext.drew ?_ | refine Ext.drewN ?_ _ | refine Ext.alloc ?_ _ | (refine Ext.setCell ?_ ?sz _; case sz => (first | (simp; done) | (simp; omega))) | refine Ext.trans ?_ (by assumption)))
    have S : MS w.heap.size m a cap w1 := ⟨hE.cell (by simp [go_sem]), hE.cell (by simp [go_sem]), hE.cell (by simp [go_sem]), hI.ext (by repeat (with_reducible first | assumption | exact Ext.refl _ | refine Ext.drew ?_ | refine Ext.drewN ?_ _ | refine Ext.alloc ?_ _ | (refine Ext.setCell ?_ ?sz _; case sz => (first | (simp; done) | (simp; omega))) | refine Ext.trans ?_ (by assumption)))⟩
    generalize w.heap.size = B at *
    replace S := hid S
    clear hE hB hI
    have m0 := S.out.m0; have m1 := S.out.m1; have m2 := S.out.m2
    go_wp2_with fail
    try simp only [List.append_eq, List.cons_append, List.nil_append]
    go_region_held3 (fun w' => w'.cell? ⟨B, 0, none⟩ = some (.int .i64 m.L) ∧ w'.cell? ⟨B, 1, none⟩ = some (.int .i64 m.R) ∧ w'.cell? ⟨B, 2, none⟩ = some (.slice a m.hs.length cap) ∧ Ext w1 w') (((try go_split_ands); (repeat' apply And.intro) <;> (first | (with_reducible assumption) | exact Ext.cell (w := w1) (by repeat (with_reducible first | assumption | exact Ext.refl _ | refine Ext.drew ?_ | refine Ext.drewN ?_ _ | refine Ext.alloc ?_ _ | (refine Ext.setCell ?_ ?sz _; case sz => (first | (simp; done) | (simp; omega))) | refine Ext.trans ?_ (by assumption))) (by assumption) | exact (by repeat (with_reducible first | assumption | exact Ext.refl _ | refine Ext.drew ?_ | refine Ext.drewN ?_ _ | refine Ext.alloc ?_ _ | (refine Ext.setCell ?_ ?sz _; case sz => (first | (simp; done) | (simp; omega))) | refine Ext.trans ?_ (by assumption)))))) (first | (go_at_call 55; refine (tilted_any tn ht _).mono ?_; rintro e w2 ⟨rfl, hE⟩))
    obtain ⟨t0, t1⟩ := tiltOf_bd tn
    generalize tiltOf tn = t at *
    have tI : I64 t := ⟨by omega, by omega⟩
    (have x : Ext w1 w2 := (by repeat (with_reducible first | assumption | exact Ext.refl _ | refine Ext.drew ?_ | refine Ext.drewN ?_ _ | refine Ext.alloc ?_ _ | (refine Ext.setCell ?_ ?sz _; case sz => (first | (simp; done) | (simp; omega))) | refine Ext.trans ?_ (by assumption))); replace S := hid (S.out.ext x); replace X := hid (X.out.trans x); clear x hE m0 m1 m2; have m0 := S.out.m0; have m1 := S.out.m1; have m2 := S.out.m2; go_wp2_with fail)
    refine (measureL_any m.R m.L none 0 0 _).mono ?_; rintro e w3 ⟨rfl, hE⟩
    (have x : Ext w2 w3 := (by repeat (with_reducible first | assumption | exact Ext.refl _ | refine Ext.drew ?_ | refine Ext.drewN ?_ _ | refine Ext.alloc ?_ _ | (refine Ext.setCell ?_ ?sz _; case sz => (first | (simp; done) | (simp; omega))) | refine Ext.trans ?_ (by assumption))); replace S := hid (S.out.ext x); replace X := hid (X.out.trans x); clear x hE m0 m1 m2; have m0 := S.out.m0; have m1 := S.out.m1; have m2 := S.out.m2; go_wp2_with fail)
    obtain ⟨b, off, rfl, _, y1⟩ := S.out.i.at (by omega)
    replace y1 := hid y1
    obtain ⟨C, hC⟩ : ∃ C, C = w3.heap.size := ⟨_, rfl⟩
    have hC1 : w3.heap.size ≤ C := by omega
    rw [← hC]
    go_loopw [10] (fun i wr => ∃ (k : Nat) (vv : Value), k ≤ m.hs.length ∧ i = .int .i64 ((m.hs.length : Int) - 1 - (k : Int)) ∧ Hid (BoxM wr C 2 (.int .i64 m.R) (.int .i64 m.L) vv (rvs m.hs k)) ∧ Ext w3 wr) (fun i _ => (intOf i + 1).toNat)
    case atStart => exact ⟨0, .slice none 0 0, by omega, by simp, hid ⟨by rw [hC]; simp [go_sem], by rw [hC]; simp [go_sem], by rw [hC]; simp [go_sem], by rw [hC]; simp [go_sem], OwnI.nil _ _ _, by rw [hC]; simp⟩, (by repeat (with_reducible first | assumption | exact Ext.refl _ | refine Ext.drew ?_ | refine Ext.drewN ?_ _ | refine Ext.alloc ?_ _ | (refine Ext.setCell ?_ ?sz _; case sz => (first | (simp; done) | (simp; omega))) | refine Ext.trans ?_ (by assumption)))⟩
    case round =>
      obtain ⟨k, vv, hk, rfl, hX, hw⟩ := hrel
      by_cases hlt : k < m.hs.length
      · obtain ⟨j, hj⟩ : ∃ j : Nat, m.hs.length - 1 - k = j := ⟨_, rfl⟩
        have ej : (m.hs.length : Int) - 1 - (k : Int) = (j : Int) := by omega
        rw [ej]
        have cj := hw.cell (y1.out j (by omega))
        have hjn : j < m.hs.length := by omega
        have bj0 := v.h0 j
        have bj1 := v.h1 j
        have c2 := hX.out.c2
        have f2 := hX.out.f2
        have hs := hX.out.hC
        have m2' := hw.cell m2
        have hsn := hid (show rvs m.hs (k + 1) = rvs m.hs k ++ [nth m.hs j] by show rvs m.hs k ++ [nth m.hs (m.hs.length - 1 - k)] = _; rw [hj])
        generalize nth m.hs j = x at *
        have HW := hid hw
        clear hC m0 m1 m2 hw
        replace ej := hid ej
        replace hj := hid hj
        go_wp2_with fail
        refine wp_region_told (Told 8 8 (fun w' => w'.cell? ⟨C, 2, none⟩ = some vv ∧ w'.cell? ⟨B, 2, none⟩ = some (.slice (some ⟨b, off, none⟩) m.hs.length cap) ∧ w'.cell? ⟨b, off + j, none⟩ = some (.int .i64 x)) (fun _ => True) (fun _ => True)) (by kernel_rfl) (Told.all ⟨c2, m2', cj⟩ trivial trivial) (fun hTold => ?_)
        (refine wpAnyT_take (i := 0) (oi := _) (v := ?_) rfl (by kernel_rfl) (by kernel_rfl) (by kernel_rfl) (by kernel_rfl) (fun _ _ _ h => h) (Told.c) (Told.ind (by decide) (by decide)) (Or.inl ⟨by rfl, ?yl⟩) (by assumption) (fun hHeld => ?_); (case yl => ((intro w hSw; (try dsimp only at hSw); go_simp); with_reducible rfl)); (try clear hTold); rename _ => hTold; (try simp only [Act.put, List.setIfInBounds_toArray, List.set_cons_zero, List.set_cons_succ]))
        (refine wpAnyT_take (i := 1) (oi := _) (v := ?_) rfl (by kernel_rfl) (by kernel_rfl) (by kernel_rfl) (by kernel_rfl) (fun _ _ _ h => h) (Told.a (f := 11) (by kernel_rfl)) (Told.ind (by decide) (by decide)) (Or.inl ⟨by rfl, ?yl⟩) (by assumption) (fun hHeld => ?_); (case yl => ((intro w hSw; (try dsimp only at hSw); go_simp); with_reducible rfl)); (try clear hTold); rename _ => hTold; (try simp only [Act.put, List.setIfInBounds_toArray, List.set_cons_zero, List.set_cons_succ]))
        (refine wpAnyT_take (i := 2) (oi := _) (v := ?_) rfl (by kernel_rfl) (by kernel_rfl) (by kernel_rfl) (by kernel_rfl) (fun _ _ _ h => h) (Told.c) (Told.ind (by decide) (by decide)) (Or.inl ⟨by rfl, ?yl⟩) (by assumption) (fun hHeld => ?_); (case yl => ((intro w hSw; (try dsimp only at hSw); go_simp); with_reducible rfl)); (try clear hTold); rename _ => hTold; (try simp only [Act.put, List.setIfInBounds_toArray, List.set_cons_zero, List.set_cons_succ]))
        (refine wpAnyT_take (i := 3) (oi := _) (v := ?_) rfl (by kernel_rfl) (by kernel_rfl) (by kernel_rfl) (by kernel_rfl) (fun _ _ _ h => h) (Told.a (f := 11) (by kernel_rfl)) (Told.ind (by decide) (by decide)) (Or.inl ⟨by rfl, ?yl⟩) (by assumption) (fun hHeld => ?_); (case yl => ((intro w hSw; (try dsimp only at hSw); go_simp); with_reducible rfl)); (try clear hTold); rename _ => hTold; (try simp only [Act.put, List.setIfInBounds_toArray, List.set_cons_zero, List.set_cons_succ]))
        (refine wpAnyT_take (i := 4) (oi := _) (v := ?_) rfl (by kernel_rfl) (by kernel_rfl) (by kernel_rfl) (by kernel_rfl) (fun _ _ _ h => h) (Told.c) (Told.ind (by decide) (by decide)) (Or.inl ⟨by rfl, ?yl⟩) (by assumption) (fun hHeld => ?_); (case yl => ((intro w hSw; (try dsimp only at hSw); go_simp); with_reducible rfl)); (try clear hTold); rename _ => hTold; (try simp only [Act.put, List.setIfInBounds_toArray, List.set_cons_zero, List.set_cons_succ]))
        (refine wpAnyT_take (i := 5) (oi := _) (v := ?_) rfl (by kernel_rfl) (by kernel_rfl) (by kernel_rfl) (by kernel_rfl) (fun _ _ _ h => h) (Told.c) (Told.ind (by decide) (by decide)) (Or.inl ⟨by rfl, ?yl⟩) (by assumption) (fun hHeld => ?_); (case yl => ((intro w hSw; (try dsimp only at hSw); go_simp); with_reducible rfl)); (try clear hTold); rename _ => hTold; (try simp only [Act.put, List.setIfInBounds_toArray, List.set_cons_zero, List.set_cons_succ]))
        (refine wpAnyT_take (i := 6) (oi := _) (v := ?_) rfl (by kernel_rfl) (by kernel_rfl) (by kernel_rfl) (by kernel_rfl) (fun _ _ _ h => h) (Told.a (f := 11) (by kernel_rfl)) (Told.ind (by decide) (by decide)) (Or.inl ⟨by rfl, ?yl⟩) (by assumption) (fun hHeld => ?_); (case yl => ((intro w hSw; (try dsimp only at hSw); go_simp); with_reducible rfl)); (try clear hTold); rename _ => hTold; (try simp only [Act.put, List.setIfInBounds_toArray, List.set_cons_zero, List.set_cons_succ]))
        refine wpAnyT_one (i := 7) (o := _) (by kernel_rfl) rfl (fun K hK => ?_)
        go_simp
        refine hK.out _ _ (Told.all ⟨Ext.cell (w := wr) (by repeat (with_reducible first | assumption | exact Ext.refl _ | refine Ext.drew ?_ | refine Ext.drewN ?_ _ | refine Ext.alloc ?_ _ | (refine Ext.setCell ?_ ?sz _; case sz => (first | (simp; done) | (simp; omega))) | refine Ext.trans ?_ (by assumption))) c2, Ext.cell (w := wr) (by repeat (with_reducible first | assumption | exact Ext.refl _ | refine Ext.drew ?_ | refine Ext.drewN ?_ _ | refine Ext.alloc ?_ _ | (refine Ext.setCell ?_ ?sz _; case sz => (first | (simp; done) | (simp; omega))) | refine Ext.trans ?_ (by assumption))) m2', Ext.cell (w := wr) (by repeat (with_reducible first | assumption | exact Ext.refl _ | refine Ext.drew ?_ | refine Ext.drewN ?_ _ | refine Ext.alloc ?_ _ | (refine Ext.setCell ?_ ?sz _; case sz => (first | (simp; done) | (simp; omega))) | refine Ext.trans ?_ (by assumption))) cj⟩ trivial trivial) (fun hTold => ?_)
        clear hK K
        refine wpAnyT_one (i := 8) (o := _) (by kernel_rfl) rfl (fun K hK => ?_)
        rw [if_pos (by rfl)]
        refine appC_wp _ _ _ rfl 2 Try.underlying22 elemI64x (C + 1) (rvs m.hs k) [x] _ rfl _ 1 rfl ?how ?cc (by simp) (by rw [rvs_len]; simp; omega) (by simp; omega) ?_
        case how => exact hX.out.ow.ext (by repeat (with_reducible first | assumption | exact Ext.refl _ | refine Ext.drew ?_ | refine Ext.drewN ?_ _ | refine Ext.alloc ?_ _ | (refine Ext.setCell ?_ ?sz _; case sz => (first | (simp; done) | (simp; omega))) | refine Ext.trans ?_ (by assumption)))
        case cc => exact ints_one (by simp)
        intro bb cp w5 ho5 hx5 hbb g0
        have xr : Ext wr (wr.alloc (.cells #[.int .i64 x] 2)).drew := (by repeat (with_reducible first | assumption | exact Ext.refl _ | refine Ext.drew ?_ | refine Ext.drewN ?_ _ | refine Ext.alloc ?_ _ | (refine Ext.setCell ?_ ?sz _; case sz => (first | (simp; done) | (simp; omega))) | refine Ext.trans ?_ (by assumption)))
        have d0 : w5.cell? ⟨C, 0, none⟩ = some (.int .i64 m.R) := (g0 ⟨C, 0, none⟩ (Nat.lt_succ_self C)).1.trans (xr.cell hX.out.c0)
        have d1 : w5.cell? ⟨C, 1, none⟩ = some (.int .i64 m.L) := (g0 ⟨C, 1, none⟩ (Nat.lt_succ_self C)).1.trans (xr.cell hX.out.c1)
        have d2 : w5.cell? ⟨C, 2, none⟩ = some vv := (g0 ⟨C, 2, none⟩ (Nat.lt_succ_self C)).1.trans (xr.cell c2)
        have f5 : w5.frozen? ⟨C, 2, none⟩ = false := (g0 ⟨C, 2, none⟩ (Nat.lt_succ_self C)).2.trans ((xr.frozen hs).trans f2)
        have hE5 := hid (hx5 w3 (by have := HW.out; exact (by repeat (with_reducible first | assumption | exact Ext.refl _ | refine Ext.drew ?_ | refine Ext.drewN ?_ _ | refine Ext.alloc ?_ _ | (refine Ext.setCell ?_ ?sz _; case sz => (first | (simp; done) | (simp; omega))) | refine Ext.trans ?_ (by assumption)))) (by omega))
        have hz := cell_lt d2
        simp only at hz
        refine hK.out _ _ (Told.past (by kernel_rfl) (by kernel_rfl) trivial) (fun hTold => ?_)
        clear hK K hx5 g0 xr c2 f2 cj m2'
        simp only [List.getElem_toArray, List.getElem_cons_succ, List.getElem_cons_zero, Act.put, List.setIfInBounds_toArray, List.set_cons_zero, List.set_cons_succ]
        refine wpAnyT_one (i := 9) (o := _) (by kernel_rfl) rfl (fun K hK => ?_)
        go_simp
        refine hK.out _ _ (Told.past (by kernel_rfl) (by kernel_rfl) trivial) (fun hTold => ?_)
        clear hK K
        refine wpAnyT_one (i := 10) (o := _) (by kernel_rfl) rfl (fun K hK => ?_)
        go_simp
        refine hK.out _ _ (Told.past (by kernel_rfl) (by kernel_rfl) trivial) (fun hTold => ?_)
        clear hK K
        refine wpAnyT_done (by kernel_rfl) ?_ _
        go_wp2
        go_roundw
        case rel => exact ⟨k + 1, .slice (some ⟨bb, 0, none⟩) (rvs m.hs k ++ [x]).length cp, by omega, by rw [← ej.out]; congr 1; omega, hid ⟨by simp [go_sem, *], by simp [go_sem, *], by simp [go_sem, *], by simp [go_sem, *], by rw [hsn.out]; exact OwnI.setBox ho5 hbb (Nat.lt_succ_self C) _, by simp; omega⟩, by have := hE5.out; exact (by repeat (with_reducible first | assumption | exact Ext.refl _ | refine Ext.drew ?_ | refine Ext.drewN ?_ _ | refine Ext.alloc ?_ _ | (refine Ext.setCell ?_ ?sz _; case sz => (first | (simp; done) | (simp; omega))) | refine Ext.trans ?_ (by assumption)))⟩
        case measure => simp [intOf] <;> omega
      · have e : k = m.hs.length := by omega
        subst e
        rw [show (m.hs.length : Int) - 1 - (m.hs.length : Int) = -1 by omega]
        obtain ⟨ax, cx, rfl, hIx⟩ := hX.out.ow.slice
        have d0 := hX.out.c0
        have d1 := hX.out.c1
        have d2 := hX.out.c2
        rw [rvs_all] at hIx
        rw [rvs_len] at d2
        have hIx : Ints wr ax (rv m).hs := hIx
        replace S := hid (S.out.ext hw)
        replace X := hid (X.out.trans hw)
        replace hIx := hid hIx
        clear hX hC hC1 y1 m0 m1 m2 hw hlt
        have m0 := S.out.m0; have m1 := S.out.m1; have m2 := S.out.m2
        obtain ⟨w4, rfl⟩ : ∃ w4 : World, w4 = wr := ⟨_, rfl⟩
        go_wp2_with fail
        refine (depthsL_any m v _ cap t t0 t1 _ S.out.i).mono ?_; rintro e w5 ⟨a5, c5, rfl, hK, hE⟩
        replace hK := hid hK
        replace d0 := hE.cell d0
        replace d1 := hE.cell d1
        replace d2 := hE.cell d2
        replace hIx := hid (hIx.out.ext hE)
        (have x : Ext w4 w5 := (by repeat (with_reducible first | assumption | exact Ext.refl _ | refine Ext.drew ?_ | refine Ext.drewN ?_ _ | refine Ext.alloc ?_ _ | (refine Ext.setCell ?_ ?sz _; case sz => (first | (simp; done) | (simp; omega))) | refine Ext.trans ?_ (by assumption))); replace S := hid (S.out.ext x); replace X := hid (X.out.trans x); clear x hE m0 m1 m2; have m0 := S.out.m0; have m1 := S.out.m1; have m2 := S.out.m2; go_wp2_with fail)
        refine (depthsN_any (rv m) (rv_vld v) m.R m.L rfl rfl ax m.hs.length cx (rv_len m).symm (-t) (by omega) (by omega) _ hIx.out).mono ?_; rintro e w6 ⟨a6, n6, c6, h6, rfl, hn6, hJ, hE⟩
        replace hK := hid (hK.out.ext hE)
        replace hJ := hid hJ
        replace d0 := hE.cell d0
        replace d1 := hE.cell d1
        replace d2 := hE.cell d2
        replace hIx := hid (hIx.out.ext hE)
        rw [depths_len, rv_len] at hn6
        subst hn6
        (have x : Ext w5 w6 := (by repeat (with_reducible first | assumption | exact Ext.refl _ | refine Ext.drew ?_ | refine Ext.drewN ?_ _ | refine Ext.alloc ?_ _ | (refine Ext.setCell ?_ ?sz _; case sz => (first | (simp; done) | (simp; omega))) | refine Ext.trans ?_ (by assumption))); replace S := hid (S.out.ext x); replace X := hid (X.out.trans x); clear x hE m0 m1 m2; have m0 := S.out.m0; have m1 := S.out.m1; have m2 := S.out.m2; go_wp2_with fail)
        obtain ⟨b5, o5, rfl, _, z5⟩ := hK.out.at (by rw [depths_len]; omega)
        obtain ⟨b6, o6, rfl, _, z6⟩ := hJ.out.at (by rw [depths_len, rv_len]; omega)
        rw [depths_len] at z5
        rw [depths_len, rv_len] at z6
        replace z5 := hid z5
        replace z6 := hid z6
        clear hK hJ
        go_loopw [17] (fun x wr => ∃ i : Nat, i ≤ m.hs.length ∧ x = .int .i64 i ∧ Ext w6 wr) (fun x _ => (m.hs.length - intOf x).toNat)
        case atStart => exact ⟨0, by omega, rfl, Ext.refl _⟩
        case round =>
          obtain ⟨i, hi, rfl, hv⟩ := hrel
          by_cases hlt : i < m.hs.length
          · obtain ⟨j, hj⟩ : ∃ j : Nat, (m.hs.length : Int) - 1 - (i : Int) = (j : Int) := ⟨m.hs.length - 1 - i, by omega⟩
            have g5 := hv.cell (z5.out i hlt)
            have g6 := hv.cell (z6.out j (by omega))
            rw [depths_nth _ _ hlt] at g5
            rw [depths_nth _ _ (by rw [rv_len]; omega)] at g6
            have ed : dep (rv m) (-t) j = dep m t i := by
              have := rv_depth m t (i : Int) (by omega) (by omega)
              rw [hj] at this
              exact this
            rw [ed] at g6
            have hb : (dep m t i != dep m t i) = false := by simp
            generalize dep m t i = x at *
            have y1 := Go.IntWalk.i64_in ((m.hs.length : Int) - 1) (by omega)
            have y2 : IntKind.i64.wrap ((m.hs.length : Int) - 1 - (i : Int)) = (j : Int) := by rw [Go.IntWalk.i64_in _ (by omega), hj]
            have y3 : j < m.hs.length := by omega
            clear hj m0 m1 m2 d0 d1 d2 ed
            go_wp2_with fail
            go_quiet (fail)
            go_wp2_with fail
            clear y2 y1
            go_roundw
            case rel => exact ⟨i + 1, by omega, by go_num, (by repeat (with_reducible first | assumption | exact Ext.refl _ | refine Ext.drew ?_ | refine Ext.drewN ?_ _ | refine Ext.alloc ?_ _ | (refine Ext.setCell ?_ ?sz _; case sz => (first | (simp; done) | (simp; omega))) | refine Ext.trans ?_ (by assumption)))⟩
            case measure => simp [intOf]; omega
          · have X6 := X.out.trans hv
            replace S := hid (S.out.ext hv)
            replace d0 := hv.cell d0
            replace d1 := hv.cell d1
            replace d2 := hv.cell d2
            replace hIx := hid (hIx.out.ext hv)
            replace X := hid X6
            clear m0 m1 m2 X6 hv z5 z6
            have m0 := S.out.m0; have m1 := S.out.m1; have m2 := S.out.m2
            obtain ⟨w7, rfl⟩ : ∃ w7 : World, w7 = wr := ⟨_, rfl⟩
            obtain ⟨i0, i1⟩ := rem_bd wi (m.hs.length : Int) hwi.1 (by omega)
            obtain ⟨p, hp⟩ : ∃ p : Nat, wi.tmod (m.hs.length : Int) = (p : Int) := ⟨(wi.tmod (m.hs.length : Int)).toNat, by omega⟩
            rw [hp] at i0 i1
            have hpl : p < m.hs.length := by omega
            obtain ⟨o1, o2, o3⟩ := rv_over v t0 t1 (i := (p : Int)) (by omega) (by omega)
            have iI : I64 (p : Int) := ⟨by omega, by omega⟩
            replace o1 := hid o1
            replace o3 := hid o3
            replace o2 := hid o2
            go_wp2_with fail
            refine (over_any m v.fit _ cap t p _ S.out.i hl' tI iI).mono ?_; rintro e w8 ⟨rfl, hE⟩
            replace d0 := hE.cell d0
            replace d1 := hE.cell d1
            replace d2 := hE.cell d2
            replace hIx := hid (hIx.out.ext hE)
            (have x : Ext w7 w8 := (by repeat (with_reducible first | assumption | exact Ext.refl _ | refine Ext.drew ?_ | refine Ext.drewN ?_ _ | refine Ext.alloc ?_ _ | (refine Ext.setCell ?_ ?sz _; case sz => (first | (simp; done) | (simp; omega))) | refine Ext.trans ?_ (by assumption))); replace S := hid (S.out.ext x); replace X := hid (X.out.trans x); clear x hE m0 m1 m2; have m0 := S.out.m0; have m1 := S.out.m1; have m2 := S.out.m2; go_wp2_with fail)
            refine (overN_any (rv m) (rv_vld v).fit m.R m.L rfl rfl ax m.hs.length cx (rv_len m).symm (-t) ((m.hs.length : Int) - 1 - (p : Int)) _ hIx.out (by rw [rv_len]; exact hl') ⟨by omega, by omega⟩ ⟨by omega, by omega⟩).mono ?_; rintro e w9 ⟨rfl, hE⟩
            rw [o1.out]
            have o3 := o3.out
            generalize overE m t p = E at *
            generalize overOf m t p = U at *
            generalize overOf (rv m) (-t) ((m.hs.length : Int) - 1 - (p : Int)) = V at *
            clear o1 o2 hp d0 d1 d2
            rcases o3 with ⟨rfl, rfl⟩ | ⟨rfl, rfl⟩ | ⟨rfl, rfl⟩ | ⟨rfl, rfl⟩
            all_goals
              (have x : Ext w8 w9 := (by repeat (with_reducible first | assumption | exact Ext.refl _ | refine Ext.drew ?_ | refine Ext.drewN ?_ _ | refine Ext.alloc ?_ _ | (refine Ext.setCell ?_ ?sz _; case sz => (first | (simp; done) | (simp; omega))) | refine Ext.trans ?_ (by assumption))); replace S := hid (S.out.ext x); replace X := hid (X.out.trans x); clear x hE m0 m1 m2; have m0 := S.out.m0; have m1 := S.out.m1; have m2 := S.out.m2; go_wp2_with fail)
              refine (works_any _).mono ?_; rintro e w10 ⟨rfl, hE⟩
              go_wp2_with fail
              go_ret
              exact ⟨ret_bool (by simp), X.out.trans (by repeat (with_reducible first | assumption | exact Ext.refl _ | refine Ext.drew ?_ | refine Ext.drewN ?_ _ | refine Ext.alloc ?_ _ | (refine Ext.setCell ?_ ?sz _; case sz => (first | (simp; done) | (simp; omega))) | refine Ext.trans ?_ (by assumption)))⟩

end Go.Proofs.Ytogglbhidlnijaa
