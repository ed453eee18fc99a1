/- The law PintProved, walked. -/
import Derived.Test.YtogglbhidlnijaaLawB
import Derived.Test.YtogglbhidlnijaaPlainC
import Derived.IntWalk
namespace Go.Proofs.Ytogglbhidlnijaa
set_option linter.unusedVariables false
set_option linter.unusedSimpArgs false
set_option linter.unusedSectionVars false
set_option linter.unnecessarySimpa false
open Go Go.RowKit
set_option maxRecDepth 100000


theorem depth_eq (m : Meas) (t i : Int) : depth m t i = min (topL m t i - hAt m t i) (topR m t i - hAt m t i) := by unfold depth; omega
theorem over_of {m : Meas} {t i : Int} (hp : plc m t i = 0) : overE m t i = if depth m t i = 0 then 5 else 0 := by
  unfold overE; rw [if_neg (by simp [hp])]
theorem overOf_of {m : Meas} {t i : Int} (hp : plc m t i = 0) : overOf m t i = if depth m t i = 0 then 0 else sideOf m t i := by
  unfold overOf; rw [over_of hp]
  by_cases c : depth m t i = 0 <;> simp [c]
theorem side_of (m : Meas) (t i : Int) : sideOf m t i = if topL m t i - hAt m t i < topR m t i - hAt m t i then 1 else if topR m t i - hAt m t i < topL m t i - hAt m t i then 2 else 3 := by
  unfold sideOf
  split <;> (try split) <;> (try split) <;> (try split) <;> omega


set_option maxHeartbeats 8000000 in
theorem pintProved_any (m : Meas) (q : Fit m) (a : Option Addr) (cap : Nat) (tn wi one two : Int) (w : World) (hI : Ints w a m.hs) (hl : m.hs.length ≤ 9223372036854775807) (ht : -128 ≤ tn ∧ tn ≤ 127) (hwi : 0 ≤ wi ∧ wi ≤ 255) (h1 : 0 ≤ one ∧ one ≤ 255) (h2 : 0 ≤ two ∧ two ≤ 255) :
    Calls Try.prog 7 #[(.agg #[.int .i64 m.L, .int .i64 m.R, .slice a m.hs.length cap]), .int .i8 tn, .int .u8 wi, .int .u8 one, .int .u8 two] w fun e w' => e = .returned (.bool true) ∧ Ext w w' := by
  have hB := (Ext.refl w).alloc (.cells #[.int .i64 m.L, .int .i64 m.R, .slice a m.hs.length cap] 24)
  by_cases v : Vld m
  case neg =>
    go_enter Try.func7, Try.ntmps7
    go_wp2_with fail
    refine (fine_no m q v a cap _ (hI.ext (by repeat (with_reducible first | assumption | exact Ext.refl _ | refine Ext.drew ?_ | refine Ext.drewN ?_ _ | refine Ext.alloc ?_ _ | (refine Ext.setCell ?_ ?sz _; case sz => (first | (simp; done) | (simp; omega))) | refine Ext.trans ?_ (by assumption)))) hl).mono ?_; rintro e w1 ⟨rfl, hE⟩
    go_wp2_with fail
    refine (works_any _).mono ?_; rintro e w2 ⟨rfl, hE2⟩
    go_wp2_with fail
    go_ret
    exact ⟨rfl, (by repeat (with_reducible first | assumption | exact Ext.refl _ | refine Ext.drew ?_ | refine Ext.drewN ?_ _ | refine Ext.alloc ?_ _ | (refine Ext.setCell ?_ ?sz _; case sz => (first | (simp; done) | (simp; omega))) | refine Ext.trans ?_ (by assumption)))⟩
  case pos =>
    have n1 := v.n1
    have n8 := v.n8
    have hl' : m.hs.length ≤ 1000 := by omega
    go_enter Try.func7, Try.ntmps7
    go_wp2_with fail
    refine (fine_yes m v a cap _ (hI.ext (by repeat (with_reducible first | assumption | exact Ext.refl _ | refine Ext.drew ?_ | refine Ext.drewN ?_ _ | refine Ext.alloc ?_ _ | (refine Ext.setCell ?_ ?sz _; case sz => (first | (simp; done) | (simp; omega))) | refine Ext.trans ?_ (by assumption))))).mono ?_; rintro e w1 ⟨rfl, hE⟩
    have X : Hid (Ext w w1) := hid (by repeat (with_reducible first | assumption | exact Ext.refl _ | refine Ext.drew ?_ | refine Ext.drewN ?_ _ | refine Ext.alloc ?_ _ | (refine Ext.setCell ?_ ?sz _; case sz => (first | (simp; done) | (simp; omega))) | refine Ext.trans ?_ (by assumption)))
    have S : MS w.heap.size m a cap w1 := ⟨hE.cell (by simp [go_sem]), hE.cell (by simp [go_sem]), hE.cell (by simp [go_sem]), hI.ext (by repeat (with_reducible first | assumption | exact Ext.refl _ | refine Ext.drew ?_ | refine Ext.drewN ?_ _ | refine Ext.alloc ?_ _ | (refine Ext.setCell ?_ ?sz _; case sz => (first | (simp; done) | (simp; omega))) | refine Ext.trans ?_ (by assumption)))⟩
    generalize w.heap.size = B at *
    replace S := hid S
    clear hE hB hI
    have m0 := S.out.m0; have m1 := S.out.m1; have m2 := S.out.m2
    go_wp2_with fail
    try simp only [List.append_eq, List.cons_append, List.nil_append]
    go_region_held3 (fun w' => w'.cell? ⟨B, 0, none⟩ = some (.int .i64 m.L) ∧ w'.cell? ⟨B, 1, none⟩ = some (.int .i64 m.R) ∧ w'.cell? ⟨B, 2, none⟩ = some (.slice a m.hs.length cap) ∧ Ext w1 w') (((try go_split_ands); (repeat' apply And.intro) <;> (first | (with_reducible assumption) | exact Ext.cell (w := w1) (by repeat (with_reducible first | assumption | exact Ext.refl _ | refine Ext.drew ?_ | refine Ext.drewN ?_ _ | refine Ext.alloc ?_ _ | (refine Ext.setCell ?_ ?sz _; case sz => (first | (simp; done) | (simp; omega))) | refine Ext.trans ?_ (by assumption))) (by assumption) | exact (by repeat (with_reducible first | assumption | exact Ext.refl _ | refine Ext.drew ?_ | refine Ext.drewN ?_ _ | refine Ext.alloc ?_ _ | (refine Ext.setCell ?_ ?sz _; case sz => (first | (simp; done) | (simp; omega))) | refine Ext.trans ?_ (by assumption)))))) (first | (go_at_call 55; refine (tilted_any tn ht _).mono ?_; rintro e w2 ⟨rfl, hE⟩))
    obtain ⟨t0, t1⟩ := tiltOf_bd tn
    generalize tiltOf tn = t at *
    obtain ⟨i0, i1⟩ := rem_bd wi (m.hs.length : Int) hwi.1 (by omega)
    obtain ⟨i, hi⟩ : ∃ i : Nat, wi.tmod (m.hs.length : Int) = (i : Int) := ⟨(wi.tmod (m.hs.length : Int)).toNat, by omega⟩
    rw [hi] at i0 i1
    have hil : i < m.hs.length := by omega
    (have x : Ext w1 w2 := (by repeat (with_reducible first | assumption | exact Ext.refl _ | refine Ext.drew ?_ | refine Ext.drewN ?_ _ | refine Ext.alloc ?_ _ | (refine Ext.setCell ?_ ?sz _; case sz => (first | (simp; done) | (simp; omega))) | refine Ext.trans ?_ (by assumption))); replace S := hid (S.out.ext x); replace X := hid (X.out.trans x); clear x hE m0 m1 m2; have m0 := S.out.m0; have m1 := S.out.m1; have m2 := S.out.m2; go_wp2_with fail)
    refine (depthsL_any m v a cap t t0 t1 _ (S.out.i.ext (by repeat (with_reducible first | assumption | exact Ext.refl _ | refine Ext.drew ?_ | refine Ext.drewN ?_ _ | refine Ext.alloc ?_ _ | (refine Ext.setCell ?_ ?sz _; case sz => (first | (simp; done) | (simp; omega))) | refine Ext.trans ?_ (by assumption))))).mono ?_; rintro e w3 ⟨a3, c3, rfl, hK, hE⟩
    replace hK := hid hK
    (have x : Ext w2 w3 := (by repeat (with_reducible first | assumption | exact Ext.refl _ | refine Ext.drew ?_ | refine Ext.drewN ?_ _ | refine Ext.alloc ?_ _ | (refine Ext.setCell ?_ ?sz _; case sz => (first | (simp; done) | (simp; omega))) | refine Ext.trans ?_ (by assumption))); replace S := hid (S.out.ext x); replace X := hid (X.out.trans x); clear x hE m0 m1 m2; have m0 := S.out.m0; have m1 := S.out.m1; have m2 := S.out.m2; go_wp2_with fail)
    obtain ⟨l0, l1⟩ := rem_bd one ((i : Int) + 2) h1.1 (by omega)
    obtain ⟨r0, r1⟩ := rem_bd two ((m.hs.length : Int) - i + 1) h2.1 (by omega)
    obtain ⟨l, el⟩ : ∃ l, one.tmod ((i : Int) + 2) = l := ⟨_, rfl⟩
    obtain ⟨r, er⟩ : ∃ r, two.tmod ((m.hs.length : Int) - i + 1) = r := ⟨_, rfl⟩
    rw [el] at l0 l1
    rw [er] at r0 r1
    have z1 : ¬ ((i : Int) + 2 = 0) := by omega
    have z3 : ¬ ((m.hs.length : Int) - i + 1 = 0) := by omega
    have y1 := Go.IntWalk.i64_in ((i : Int) + 2) (by omega)
    have y2 := Go.IntWalk.i64_in one (by omega)
    have y3 := Go.IntWalk.i64_in two (by omega)
    have y4 := Go.IntWalk.i64_in ((m.hs.length : Int) - i) (by omega)
    have y5 := Go.IntWalk.i64_in ((m.hs.length : Int) - i + 1) (by omega)
    have y6 := Go.IntWalk.i64_in (l - 1) (by omega)
    have y7 := Go.IntWalk.i64_in ((i : Int) + r) (by omega)
    have y8 := Go.IntWalk.i64_in l (by omega)
    have y9 := Go.IntWalk.i64_in r (by omega)
    go_region_held3 (fun w' => w'.cell? ⟨B, 0, none⟩ = some (.int .i64 m.L) ∧ w'.cell? ⟨B, 1, none⟩ = some (.int .i64 m.R) ∧ w'.cell? ⟨B, 2, none⟩ = some (.slice a m.hs.length cap) ∧ Ext w3 w') (((try go_split_ands); (repeat' apply And.intro) <;> (first | (with_reducible assumption) | exact Ext.cell (w := w3) (by repeat (with_reducible first | assumption | exact Ext.refl _ | refine Ext.drew ?_ | refine Ext.drewN ?_ _ | refine Ext.alloc ?_ _ | (refine Ext.setCell ?_ ?sz _; case sz => (first | (simp; done) | (simp; omega))) | refine Ext.trans ?_ (by assumption))) (by assumption) | exact (by repeat (with_reducible first | assumption | exact Ext.refl _ | refine Ext.drew ?_ | refine Ext.drewN ?_ _ | refine Ext.alloc ?_ _ | (refine Ext.setCell ?_ ?sz _; case sz => (first | (simp; done) | (simp; omega))) | refine Ext.trans ?_ (by assumption)))))) (first | (go_at_call 31; refine (checkWalls_any m v.fit a cap t i (l - 1) (i + r) _ (S.out.i.ext (by repeat (with_reducible first | assumption | exact Ext.refl _ | refine Ext.drew ?_ | refine Ext.drewN ?_ _ | refine Ext.alloc ?_ _ | (refine Ext.setCell ?_ ?sz _; case sz => (first | (simp; done) | (simp; omega))) | refine Ext.trans ?_ (by assumption)))) hl' ⟨by omega, by omega⟩ ⟨by omega, by omega⟩ ⟨by omega, by omega⟩ ⟨by omega, by omega⟩).mono ?_; rintro e w4 ⟨rfl, hE⟩))
    have xx : Ext w3 w4 := (by repeat (with_reducible first | assumption | exact Ext.refl _ | refine Ext.drew ?_ | refine Ext.drewN ?_ _ | refine Ext.alloc ?_ _ | (refine Ext.setCell ?_ ?sz _; case sz => (first | (simp; done) | (simp; omega))) | refine Ext.trans ?_ (by assumption)))
    replace hK := hid (hK.out.ext xx)
    clear xx z1 z3 y1 y2 y3 y4 y5 y6 y7 y8 y9
    (have x : Ext w3 w4 := (by repeat (with_reducible first | assumption | exact Ext.refl _ | refine Ext.drew ?_ | refine Ext.drewN ?_ _ | refine Ext.alloc ?_ _ | (refine Ext.setCell ?_ ?sz _; case sz => (first | (simp; done) | (simp; omega))) | refine Ext.trans ?_ (by assumption))); replace S := hid (S.out.ext x); replace X := hid (X.out.trans x); clear x hE m0 m1 m2; have m0 := S.out.m0; have m1 := S.out.m1; have m2 := S.out.m2; go_wp2_with fail)
    have tI : I64 t := ⟨by omega, by omega⟩
    have iI : I64 (i : Int) := ⟨by omega, by omega⟩
    have hT : Tl m t := ⟨v, t0, t1⟩
    have hp : plc m t i = 0 := plc_ok.2 ⟨hT, by omega, by omega⟩
    have ew : wallsE m t i (l - 1) (i + r) = 0 := by unfold wallsE; rw [if_neg (by simp [hp]), if_neg (by omega)]
    have ep : provedOf m t i (l - 1) (i + r) = min (hAt m t (l - 1)) (hAt m t (i + r)) - hAt m t i := by unfold provedOf; rw [if_pos ew]
    obtain ⟨P1, eP1⟩ : ∃ P1, min (hAt m t (l - 1)) (hAt m t (i + r)) - hAt m t i = P1 := ⟨_, rfl⟩
    have hP1 : P1 ≤ depth m t i := by rw [← eP1]; exact proved_le (by omega) (by omega) (by omega) (by omega) (by omega)
    rw [eP1] at ep
    rw [ew, ep]
    have bl := wallL_bd m t i (by omega)
    have br := wallR_bd m t i (by omega)
    have ewl : wallLOf m t i = wallL m t i := by unfold wallLOf; rw [if_pos hp]
    have ewr : wallROf m t i = wallR m t i := by unfold wallROf; rw [if_pos hp]
    have ew2 : wallsE m t i (wallL m t i) (wallR m t i) = 0 := by unfold wallsE; rw [if_neg (by simp [hp]), if_neg (by omega)]
    have ep2 : provedOf m t i (wallL m t i) (wallR m t i) = depth m t i := by unfold provedOf; rw [if_pos ew2]; rfl
    have eo1 : outE m t i 1 = 0 := by unfold outE; rw [if_neg (by simp [hp]), if_pos (by omega)]
    have eo2 : outE m t i 2 = 0 := by unfold outE; rw [if_neg (by simp [hp]), if_pos (by omega)]
    have ex1 : outOf m t i 1 = topL m t i - hAt m t i := by unfold outOf; rw [if_neg (by simp [hp]), if_pos rfl]
    have ex2 : outOf m t i 2 = topR m t i - hAt m t i := by unfold outOf; rw [if_neg (by simp [hp]), if_neg (by omega), if_pos rfl]
    have dep0 := depth_bd (f := (i : Int)) v t0 t1 (by omega) (by omega)
    have tb := topL_bd (f := (i : Int)) v t0 t1 (by omega) (by omega)
    have ub := topR_bd (f := (i : Int)) v t0 t1 (by omega) (by omega)
    have hb := hAt_bd (i := (i : Int)) v t0 t1 (by omega) (by omega)
    refine (walls_any m v.fit a cap t i _ S.out.i hl' tI iI).mono ?_; rintro e w5 ⟨rfl, hE⟩
    replace hK := hid (hK.out.ext hE)
    rw [ewl, ewr, hp]
    (have x : Ext w4 w5 := (by repeat (with_reducible first | assumption | exact Ext.refl _ | refine Ext.drew ?_ | refine Ext.drewN ?_ _ | refine Ext.alloc ?_ _ | (refine Ext.setCell ?_ ?sz _; case sz => (first | (simp; done) | (simp; omega))) | refine Ext.trans ?_ (by assumption))); replace S := hid (S.out.ext x); replace X := hid (X.out.trans x); clear x hE m0 m1 m2; have m0 := S.out.m0; have m1 := S.out.m1; have m2 := S.out.m2; go_wp2_with fail)
    refine (checkWalls_any m v.fit a cap t i _ _ _ S.out.i hl' tI iI ⟨by omega, by omega⟩ ⟨by omega, by omega⟩).mono ?_; rintro e w6 ⟨rfl, hE⟩
    replace hK := hid (hK.out.ext hE)
    rw [ew2, ep2]
    (have x : Ext w5 w6 := (by repeat (with_reducible first | assumption | exact Ext.refl _ | refine Ext.drew ?_ | refine Ext.drewN ?_ _ | refine Ext.alloc ?_ _ | (refine Ext.setCell ?_ ?sz _; case sz => (first | (simp; done) | (simp; omega))) | refine Ext.trans ?_ (by assumption))); replace S := hid (S.out.ext x); replace X := hid (X.out.trans x); clear x hE m0 m1 m2; have m0 := S.out.m0; have m1 := S.out.m1; have m2 := S.out.m2; go_wp2_with fail)
    refine (checkWallsR_any m v.fit a cap t i _ _ _ S.out.i hl').mono ?_; rintro e w7 ⟨rfl, hE⟩
    replace hK := hid (hK.out.ext hE)
    rw [ew2, ep2]
    (have x : Ext w6 w7 := (by repeat (with_reducible first | assumption | exact Ext.refl _ | refine Ext.drew ?_ | refine Ext.drewN ?_ _ | refine Ext.alloc ?_ _ | (refine Ext.setCell ?_ ?sz _; case sz => (first | (simp; done) | (simp; omega))) | refine Ext.trans ?_ (by assumption))); replace S := hid (S.out.ext x); replace X := hid (X.out.trans x); clear x hE m0 m1 m2; have m0 := S.out.m0; have m1 := S.out.m1; have m2 := S.out.m2; go_wp2_with fail)
    refine (checkOut_any m v.fit a cap t i 1 _ S.out.i hl' tI iI).mono ?_; rintro e w8 ⟨rfl, hE⟩
    replace hK := hid (hK.out.ext hE)
    rw [eo1, ex1]
    (have x : Ext w7 w8 := (by repeat (with_reducible first | assumption | exact Ext.refl _ | refine Ext.drew ?_ | refine Ext.drewN ?_ _ | refine Ext.alloc ?_ _ | (refine Ext.setCell ?_ ?sz _; case sz => (first | (simp; done) | (simp; omega))) | refine Ext.trans ?_ (by assumption))); replace S := hid (S.out.ext x); replace X := hid (X.out.trans x); clear x hE m0 m1 m2; have m0 := S.out.m0; have m1 := S.out.m1; have m2 := S.out.m2; go_wp2_with fail)
    refine (checkOut_any m v.fit a cap t i 2 _ S.out.i hl' tI iI).mono ?_; rintro e w9 ⟨rfl, hE⟩
    replace hK := hid (hK.out.ext hE)
    rw [eo2, ex2]
    obtain ⟨b, off, ha, hc⟩ := hK.out i (by rw [depths_len]; exact hil)
    subst ha
    rw [depths_nth _ _ hil] at hc
    have hdep : dep m t i = depth m t i := rfl
    rw [hdep] at hc
    clear hK ew ep eP1 ewl ewr ew2 ep2 eo1 eo2 ex1 ex2 bl br l0 l1 r0 r1 hdep
    have eD := depth_eq m t i
    have hov := over_of hp
    have hof := overOf_of hp
    rw [side_of] at hof
    obtain ⟨U, eU⟩ : ∃ U, topL m t i - hAt m t i = U := ⟨_, rfl⟩
    obtain ⟨V, eV⟩ : ∃ V, topR m t i - hAt m t i = V := ⟨_, rfl⟩
    have bU : -420 ≤ U ∧ U ≤ 420 := by omega
    have bV : -420 ≤ V ∧ V ≤ 420 := by omega
    obtain ⟨D, eDD⟩ : ∃ D, depth m t i = D := ⟨_, rfl⟩
    rw [eU, eV] at eD hof
    rw [eDD] at eD hof hov hP1 dep0 hc
    rw [eU, eV, eDD]
    clear eU eV eDD tb ub hb hp hT
    obtain ⟨D0, D1⟩ := dep0
    obtain ⟨U0, U1⟩ := bU
    obtain ⟨V0, V1⟩ := bV
    have cases3 : (U < V ∧ U = D ∧ overOf m t i = if D = 0 then 0 else 1) ∨ (V < U ∧ V = D ∧ overOf m t i = if D = 0 then 0 else 2) ∨ (U = D ∧ V = D ∧ overOf m t i = if D = 0 then 0 else 3) := by
      rcases Int.lt_trichotomy U V with h | h | h
      · left; rw [if_pos h] at hof; exact ⟨h, by omega, hof⟩
      · right; right; rw [if_neg (show ¬ U < V by omega), if_neg (show ¬ V < U by omega)] at hof; exact ⟨by omega, by omega, hof⟩
      · right; left; rw [if_neg (show ¬ U < V by omega), if_pos h] at hof; exact ⟨h, by omega, hof⟩
    clear hof eD
    have b11 : bits BinOp.and IntKind.i64 1 1 = 1 := by decide
    have b12 : bits BinOp.and IntKind.i64 1 2 = 0 := by decide
    have b21 : bits BinOp.and IntKind.i64 2 1 = 0 := by decide
    have b22 : bits BinOp.and IntKind.i64 2 2 = 2 := by decide
    have b31 : bits BinOp.and IntKind.i64 3 1 = 1 := by decide
    have b32 : bits BinOp.and IntKind.i64 3 2 = 2 := by decide
    rcases cases3 with ⟨hlt, rfl, hof⟩ | ⟨hlt, rfl, hof⟩ | ⟨rfl, rfl, hof⟩
    · have k1 : (U == V) = false := beq_eq_false_iff_ne.2 (by omega)
      have k2 : (V == U) = false := beq_eq_false_iff_ne.2 (by omega)
      (have x : Ext w8 w9 := (by repeat (with_reducible first | assumption | exact Ext.refl _ | refine Ext.drew ?_ | refine Ext.drewN ?_ _ | refine Ext.alloc ?_ _ | (refine Ext.setCell ?_ ?sz _; case sz => (first | (simp; done) | (simp; omega))) | refine Ext.trans ?_ (by assumption))); replace S := hid (S.out.ext x); replace X := hid (X.out.trans x); clear x hE m0 m1 m2; have m0 := S.out.m0; have m1 := S.out.m1; have m2 := S.out.m2; go_wp2_with fail)
      refine (over_any m v.fit a cap t i _ S.out.i hl' tI iI).mono ?_; rintro e w10 ⟨rfl, hE⟩
      replace hc := hE.cell hc
      rw [hov, hof]
      clear hov hof
      by_cases z : U = 0
      · subst z
        rw [if_pos rfl, if_pos rfl]
        (have x : Ext w9 w10 := (by repeat (with_reducible first | assumption | exact Ext.refl _ | refine Ext.drew ?_ | refine Ext.drewN ?_ _ | refine Ext.alloc ?_ _ | (refine Ext.setCell ?_ ?sz _; case sz => (first | (simp; done) | (simp; omega))) | refine Ext.trans ?_ (by assumption))); replace S := hid (S.out.ext x); replace X := hid (X.out.trans x); clear x hE m0 m1 m2; have m0 := S.out.m0; have m1 := S.out.m1; have m2 := S.out.m2; go_wp2_with fail)
        refine (works_any _).mono ?_; rintro e w11 ⟨rfl, hE⟩
        go_wp2_with fail
        go_ret
        exact ⟨ret_bool (by simp), X.out.trans (by repeat (with_reducible first | assumption | exact Ext.refl _ | refine Ext.drew ?_ | refine Ext.drewN ?_ _ | refine Ext.alloc ?_ _ | (refine Ext.setCell ?_ ?sz _; case sz => (first | (simp; done) | (simp; omega))) | refine Ext.trans ?_ (by assumption)))⟩
      · rw [if_neg z, if_neg z]
        have z1 : (U == 0) = false := by simpa using z
        have z2 : 0 < U := by omega
        (have x : Ext w9 w10 := (by repeat (with_reducible first | assumption | exact Ext.refl _ | refine Ext.drew ?_ | refine Ext.drewN ?_ _ | refine Ext.alloc ?_ _ | (refine Ext.setCell ?_ ?sz _; case sz => (first | (simp; done) | (simp; omega))) | refine Ext.trans ?_ (by assumption))); replace S := hid (S.out.ext x); replace X := hid (X.out.trans x); clear x hE m0 m1 m2; have m0 := S.out.m0; have m1 := S.out.m1; have m2 := S.out.m2; go_wp2_with fail)
        refine (works_any _).mono ?_; rintro e w11 ⟨rfl, hE⟩
        go_wp2_with fail
        go_ret
        exact ⟨ret_bool (by simp), X.out.trans (by repeat (with_reducible first | assumption | exact Ext.refl _ | refine Ext.drew ?_ | refine Ext.drewN ?_ _ | refine Ext.alloc ?_ _ | (refine Ext.setCell ?_ ?sz _; case sz => (first | (simp; done) | (simp; omega))) | refine Ext.trans ?_ (by assumption)))⟩
    · have k1 : (U == V) = false := beq_eq_false_iff_ne.2 (by omega)
      have k2 : (V == U) = false := beq_eq_false_iff_ne.2 (by omega)
      (have x : Ext w8 w9 := (by repeat (with_reducible first | assumption | exact Ext.refl _ | refine Ext.drew ?_ | refine Ext.drewN ?_ _ | refine Ext.alloc ?_ _ | (refine Ext.setCell ?_ ?sz _; case sz => (first | (simp; done) | (simp; omega))) | refine Ext.trans ?_ (by assumption))); replace S := hid (S.out.ext x); replace X := hid (X.out.trans x); clear x hE m0 m1 m2; have m0 := S.out.m0; have m1 := S.out.m1; have m2 := S.out.m2; go_wp2_with fail)
      refine (over_any m v.fit a cap t i _ S.out.i hl' tI iI).mono ?_; rintro e w10 ⟨rfl, hE⟩
      replace hc := hE.cell hc
      rw [hov, hof]
      clear hov hof
      by_cases z : V = 0
      · subst z
        rw [if_pos rfl, if_pos rfl]
        (have x : Ext w9 w10 := (by repeat (with_reducible first | assumption | exact Ext.refl _ | refine Ext.drew ?_ | refine Ext.drewN ?_ _ | refine Ext.alloc ?_ _ | (refine Ext.setCell ?_ ?sz _; case sz => (first | (simp; done) | (simp; omega))) | refine Ext.trans ?_ (by assumption))); replace S := hid (S.out.ext x); replace X := hid (X.out.trans x); clear x hE m0 m1 m2; have m0 := S.out.m0; have m1 := S.out.m1; have m2 := S.out.m2; go_wp2_with fail)
        refine (works_any _).mono ?_; rintro e w11 ⟨rfl, hE⟩
        go_wp2_with fail
        go_ret
        exact ⟨ret_bool (by simp), X.out.trans (by repeat (with_reducible first | assumption | exact Ext.refl _ | refine Ext.drew ?_ | refine Ext.drewN ?_ _ | refine Ext.alloc ?_ _ | (refine Ext.setCell ?_ ?sz _; case sz => (first | (simp; done) | (simp; omega))) | refine Ext.trans ?_ (by assumption)))⟩
      · rw [if_neg z, if_neg z]
        have z1 : (V == 0) = false := by simpa using z
        have z2 : 0 < V := by omega
        (have x : Ext w9 w10 := (by repeat (with_reducible first | assumption | exact Ext.refl _ | refine Ext.drew ?_ | refine Ext.drewN ?_ _ | refine Ext.alloc ?_ _ | (refine Ext.setCell ?_ ?sz _; case sz => (first | (simp; done) | (simp; omega))) | refine Ext.trans ?_ (by assumption))); replace S := hid (S.out.ext x); replace X := hid (X.out.trans x); clear x hE m0 m1 m2; have m0 := S.out.m0; have m1 := S.out.m1; have m2 := S.out.m2; go_wp2_with fail)
        refine (works_any _).mono ?_; rintro e w11 ⟨rfl, hE⟩
        go_wp2_with fail
        go_ret
        exact ⟨ret_bool (by simp), X.out.trans (by repeat (with_reducible first | assumption | exact Ext.refl _ | refine Ext.drew ?_ | refine Ext.drewN ?_ _ | refine Ext.alloc ?_ _ | (refine Ext.setCell ?_ ?sz _; case sz => (first | (simp; done) | (simp; omega))) | refine Ext.trans ?_ (by assumption)))⟩
    · (have x : Ext w8 w9 := (by repeat (with_reducible first | assumption | exact Ext.refl _ | refine Ext.drew ?_ | refine Ext.drewN ?_ _ | refine Ext.alloc ?_ _ | (refine Ext.setCell ?_ ?sz _; case sz => (first | (simp; done) | (simp; omega))) | refine Ext.trans ?_ (by assumption))); replace S := hid (S.out.ext x); replace X := hid (X.out.trans x); clear x hE m0 m1 m2; have m0 := S.out.m0; have m1 := S.out.m1; have m2 := S.out.m2; go_wp2_with fail)
      refine (over_any m v.fit a cap t i _ S.out.i hl' tI iI).mono ?_; rintro e w10 ⟨rfl, hE⟩
      replace hc := hE.cell hc
      rw [hov, hof]
      clear hov hof
      by_cases z : V = 0
      · subst z
        rw [if_pos rfl, if_pos rfl]
        (have x : Ext w9 w10 := (by repeat (with_reducible first | assumption | exact Ext.refl _ | refine Ext.drew ?_ | refine Ext.drewN ?_ _ | refine Ext.alloc ?_ _ | (refine Ext.setCell ?_ ?sz _; case sz => (first | (simp; done) | (simp; omega))) | refine Ext.trans ?_ (by assumption))); replace S := hid (S.out.ext x); replace X := hid (X.out.trans x); clear x hE m0 m1 m2; have m0 := S.out.m0; have m1 := S.out.m1; have m2 := S.out.m2; go_wp2_with fail)
        refine (works_any _).mono ?_; rintro e w11 ⟨rfl, hE⟩
        go_wp2_with fail
        go_ret
        exact ⟨ret_bool (by simp), X.out.trans (by repeat (with_reducible first | assumption | exact Ext.refl _ | refine Ext.drew ?_ | refine Ext.drewN ?_ _ | refine Ext.alloc ?_ _ | (refine Ext.setCell ?_ ?sz _; case sz => (first | (simp; done) | (simp; omega))) | refine Ext.trans ?_ (by assumption)))⟩
      · rw [if_neg z, if_neg z]
        have z1 : (V == 0) = false := by simpa using z
        have z2 : 0 < V := by omega
        (have x : Ext w9 w10 := (by repeat (with_reducible first | assumption | exact Ext.refl _ | refine Ext.drew ?_ | refine Ext.drewN ?_ _ | refine Ext.alloc ?_ _ | (refine Ext.setCell ?_ ?sz _; case sz => (first | (simp; done) | (simp; omega))) | refine Ext.trans ?_ (by assumption))); replace S := hid (S.out.ext x); replace X := hid (X.out.trans x); clear x hE m0 m1 m2; have m0 := S.out.m0; have m1 := S.out.m1; have m2 := S.out.m2; go_wp2_with fail)
        refine (works_any _).mono ?_; rintro e w11 ⟨rfl, hE⟩
        go_wp2_with fail
        go_ret
        exact ⟨ret_bool (by simp), X.out.trans (by repeat (with_reducible first | assumption | exact Ext.refl _ | refine Ext.drew ?_ | refine Ext.drewN ?_ _ | refine Ext.alloc ?_ _ | (refine Ext.setCell ?_ ?sz _; case sz => (first | (simp; done) | (simp; omega))) | refine Ext.trans ?_ (by assumption)))⟩

end Go.Proofs.Ytogglbhidlnijaa
