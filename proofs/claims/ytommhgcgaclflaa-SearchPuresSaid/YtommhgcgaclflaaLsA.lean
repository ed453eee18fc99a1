/- The laws SearchTables and SearchPures, walked. -/
import Derived.Test.YtommhgcgaclflaaTH
import Derived.Test.YtommhgcgaclflaaZB14
import Derived.Test.YtommhgcgaclflaaZB11
namespace Go.Proofs.Ytommhgcgaclflaa
set_option linter.unusedVariables false
set_option linter.unusedSimpArgs false
set_option linter.unusedSectionVars false
set_option linter.unnecessarySimpa false
open Go Go.RowKit Game
set_option maxRecDepth 100000

theorem longB_any (p : List Int) (hl : p.length ≤ 9223372036854775807) (a : Option Addr) (cap : Nat) (b : Bool) (hb : decide (8 < p.length) = b) (w : World) : Calls Try.prog 17 #[.slice a p.length cap] w fun e w' => e = .returned (.bool b) ∧ Ext w w' := by
  subst hb; exact long_any p hl a cap w

set_option maxHeartbeats 8000000 in
theorem searchPures_any (t : List (List Int)) (q : FitT t) (a : Option Addr) (cap : Nat) (c : List Int) (hc : ∀ i, I64 (nth c i)) (a2 : Option Addr) (c2 : Nat) (w : World) (hT : Tab w a t) (hl : t.length ≤ 9223372036854775807) (hw : ∀ i, (row t i).length ≤ 9223372036854775807) (hI : Ints w a2 c) (hcl : c.length ≤ 9223372036854775807) :
    Calls Try.prog 5 #[(.agg #[.slice a t.length cap]), .slice a2 c.length c2] w fun e w' => e = .returned (.bool true) ∧ Ext w w' := by
  have hT' := hid hT
  have hI' := hid hI
  have hgr := hid (fun W hW => great_any t a cap W hW hl hw)
  have hln := hid (fun b hb W => longB_any c hcl a2 c2 b hb W)
  cases g : grtT t with
  | true =>
    rw [g] at hgr
    clear hT hI hw hl
    go_enter Try.func5, Try.ntmps5
    go_wp2_with fail
    refine (hgr.out _ (hT'.out.ext (by repeat (with_reducible first | assumption | exact Ext.refl _ | refine Ext.drew ?_ | refine Ext.drewN ?_ _ | refine Ext.alloc ?_ _ | (refine Ext.setCell ?_ ?sz _; case sz => (first | (simp; done) | (simp; omega))) | refine Ext.trans ?_ (by assumption))))).mono ?_; rintro e w1 ⟨rfl, hE⟩
    go_wp2_with fail
    refine (works_any _).mono ?_; rintro e w2 ⟨rfl, hE2⟩
    go_wp2_with fail
    go_ret
    exact ⟨rfl, (by repeat (with_reducible first | assumption | exact Ext.refl _ | refine Ext.drew ?_ | refine Ext.drewN ?_ _ | refine Ext.alloc ?_ _ | (refine Ext.setCell ?_ ?sz _; case sz => (first | (simp; done) | (simp; omega))) | refine Ext.trans ?_ (by assumption)))⟩
  | false =>
    rw [g] at hgr
    obtain ⟨hl8, hw8⟩ := grt_no g
    have hl1 : t.length ≤ 1000 := by omega
    have hw1 : ∀ i, (row t i).length ≤ 1000 := fun i => by have := hw8 i; omega
    by_cases g2 : 8 < c.length
    · have hd := decide_eq_true g2
      clear hT hI hw hl hl8 hw8 hl1 hw1
      replace g2 := hid g2
      go_enter Try.func5, Try.ntmps5
      go_wp2_with fail
      refine (hgr.out _ (hT'.out.ext (by repeat (with_reducible first | assumption | exact Ext.refl _ | refine Ext.drew ?_ | refine Ext.drewN ?_ _ | refine Ext.alloc ?_ _ | (refine Ext.setCell ?_ ?sz _; case sz => (first | (simp; done) | (simp; omega))) | refine Ext.trans ?_ (by assumption))))).mono ?_; rintro e w1 ⟨rfl, hE⟩
      go_wp2_with fail
      refine (hln.out true hd _).mono ?_; rintro e w2 ⟨rfl, hE2⟩
      go_wp2_with fail
      refine (works_any _).mono ?_; rintro e w3 ⟨rfl, hE3⟩
      go_wp2_with fail
      go_ret
      exact ⟨rfl, (by repeat (with_reducible first | assumption | exact Ext.refl _ | refine Ext.drew ?_ | refine Ext.drewN ?_ _ | refine Ext.alloc ?_ _ | (refine Ext.setCell ?_ ?sz _; case sz => (first | (simp; done) | (simp; omega))) | refine Ext.trans ?_ (by assumption)))⟩
    · have hd := decide_eq_false g2
      have hc1 : c.length ≤ 1000 := by omega
      have hp1 := hid (fun W hW => pure_any t q a cap W hW hl1 hw1)
      have hp2 := hid (fun W hW => pureR_any t q a cap W hW hl1 hw1)
      have ha1 := hid (fun W hW hJ => answers_any t q a cap c hc hc1 a2 c2 W hW hl1 hw1 hJ)
      have ha2 := hid (fun W hW hJ => answersR_any t q a cap c hc hc1 a2 c2 W hW hl1 hw1 hJ)
      have hal : (ansOf t c).length ≤ 1000 := by
        unfold ansOf
        split
        · unfold ansL; have := ansTo_len (agn (turn t) c) (lst_ (turn t) c) t.length; omega
        · simp
      have hin := hid (fun a b ca cb W hA hB => ints_any (ansOf t c) (ansOf t c) hal hal a b ca cb W hA hB)
      rw [decide_eq_true rfl] at hin
      obtain ⟨al, hale⟩ : ∃ l, ansOf t c = l := ⟨_, rfl⟩
      obtain ⟨be, hbe⟩ : ∃ l, boundE t c = l := ⟨_, rfl⟩
      unfold RetAns at ha1 ha2
      rw [hale, hbe] at ha1 ha2
      rw [hale] at hin
      replace hale := hid hale
      replace hbe := hid hbe
      clear hT hI hw hl hl8 hw8 hl1 hw1 hc1 hal
      replace g2 := hid g2
      go_enter Try.func5, Try.ntmps5
      go_wp2_with fail
      refine (hgr.out _ (hT'.out.ext (by repeat (with_reducible first | assumption | exact Ext.refl _ | refine Ext.drew ?_ | refine Ext.drewN ?_ _ | refine Ext.alloc ?_ _ | (refine Ext.setCell ?_ ?sz _; case sz => (first | (simp; done) | (simp; omega))) | refine Ext.trans ?_ (by assumption))))).mono ?_; rintro e w1 ⟨rfl, hE⟩
      have m0 := hE.cell (p := ⟨w.heap.size, 0, none⟩) (v := .slice a t.length cap) (by simp [go_sem])
      have X := hid (show Ext w w1 from (by repeat (with_reducible first | assumption | exact Ext.refl _ | refine Ext.drew ?_ | refine Ext.drewN ?_ _ | refine Ext.alloc ?_ _ | (refine Ext.setCell ?_ ?sz _; case sz => (first | (simp; done) | (simp; omega))) | refine Ext.trans ?_ (by assumption))))
      clear hE
      go_wp2_with fail
      refine (hln.out false hd _).mono ?_; rintro e w2 ⟨rfl, hE⟩
      have m0 := hE.cell m0
      replace X := hid (X.out.trans hE)
      clear hE
      go_wp2_with fail
      refine (hp1.out _ (hT'.out.ext X.out)).mono ?_; rintro e w3 ⟨i, k, er, rfl, hpr1, hE⟩
      have m0 := hE.cell m0
      replace X := hid (X.out.trans hE)
      clear hE
      go_wp2_with fail
      refine (hp2.out _ (hT'.out.ext X.out)).mono ?_; rintro e w4 ⟨i2, k2, er2, rfl, hpr2, hE⟩
      obtain ⟨rfl, rfl, rfl⟩ := hpr2.uniq hpr1
      have m0 := hE.cell m0
      replace X := hid (X.out.trans hE)
      clear hE hpr1 hpr2
      go_wp2_with fail
      refine (ha1.out _ (hT'.out.ext X.out) (hI'.out.ext X.out)).mono ?_; rintro e w5 ⟨a5, c5, rfl, hK1, hE⟩
      have m0 := hE.cell m0
      replace X := hid (X.out.trans hE)
      replace hK1 := hid hK1
      clear hE
      go_wp2_with fail
      refine (ha2.out _ (hT'.out.ext X.out) (hI'.out.ext X.out)).mono ?_; rintro e w6 ⟨a6, c6, rfl, hK2, hE⟩
      replace X := hid (X.out.trans hE)
      replace hK1 := hid (hK1.out.ext hE)
      replace hK2 := hid hK2
      clear hE m0
      go_wp2_with fail
      refine (hin.out a5 a6 c5 c6 _ hK1.out hK2.out).mono ?_; rintro e w7 ⟨rfl, hE⟩
      replace X := hid (X.out.trans hE)
      clear hE
      go_wp2_with fail
      refine (works_any _).mono ?_; rintro e w8 ⟨rfl, hE⟩
      go_wp2_with fail
      go_ret
      exact ⟨rfl, X.out.trans hE⟩

set_option maxHeartbeats 8000000 in
theorem searchTables_any (t : List (List Int)) (q : FitT t) (a : Option Addr) (cap : Nat) (c : List Int) (hc : ∀ i, I64 (nth c i)) (a2 : Option Addr) (c2 : Nat) (d : List Int) (hd : ∀ i, I64 (nth d i)) (a3 : Option Addr) (c3 : Nat) (w : World) (hT : Tab w a t) (hl : t.length ≤ 9223372036854775807) (hw : ∀ i, (row t i).length ≤ 9223372036854775807) (hI : Ints w a2 c) (hcl : c.length ≤ 9223372036854775807) (hJ : Ints w a3 d) (hdl : d.length ≤ 9223372036854775807) :
    Calls Try.prog 3 #[(.agg #[.slice a t.length cap]), .slice a2 c.length c2, .slice a3 d.length c3] w fun e w' => e = .returned (.bool true) ∧ Ext w w' := by
  have hT' := hid hT
  have hI' := hid hI
  have hJ' := hid hJ
  have hgr := hid (fun W hW => great_any t a cap W hW hl hw)
  have hln := hid (fun b hb W => longB_any c hcl a2 c2 b hb W)
  have hlm := hid (fun b hb W => longB_any d hdl a3 c3 b hb W)
  cases g : grtT t with
  | true =>
    rw [g] at hgr
    clear hT hI hJ hw hl
    go_enter Try.func3, Try.ntmps3
    go_wp2_with fail
    refine (hgr.out _ (hT'.out.ext (by repeat (with_reducible first | assumption | exact Ext.refl _ | refine Ext.drew ?_ | refine Ext.drewN ?_ _ | refine Ext.alloc ?_ _ | (refine Ext.setCell ?_ ?sz _; case sz => (first | (simp; done) | (simp; omega))) | refine Ext.trans ?_ (by assumption))))).mono ?_; rintro e w1 ⟨rfl, hE⟩
    go_wp2_with fail
    refine (works_any _).mono ?_; rintro e w2 ⟨rfl, hE2⟩
    go_wp2_with fail
    go_ret
    exact ⟨rfl, (by repeat (with_reducible first | assumption | exact Ext.refl _ | refine Ext.drew ?_ | refine Ext.drewN ?_ _ | refine Ext.alloc ?_ _ | (refine Ext.setCell ?_ ?sz _; case sz => (first | (simp; done) | (simp; omega))) | refine Ext.trans ?_ (by assumption)))⟩
  | false =>
    rw [g] at hgr
    obtain ⟨hl8, hw8⟩ := grt_no g
    have hl1 : t.length ≤ 1000 := by omega
    have hw1 : ∀ i, (row t i).length ≤ 1000 := fun i => by have := hw8 i; omega
    by_cases g2 : 8 < c.length
    · have hd := decide_eq_true g2
      clear hT hI hJ hw hl hl8 hw8 hl1 hw1
      replace g2 := hid g2
      go_enter Try.func3, Try.ntmps3
      go_wp2_with fail
      refine (hgr.out _ (hT'.out.ext (by repeat (with_reducible first | assumption | exact Ext.refl _ | refine Ext.drew ?_ | refine Ext.drewN ?_ _ | refine Ext.alloc ?_ _ | (refine Ext.setCell ?_ ?sz _; case sz => (first | (simp; done) | (simp; omega))) | refine Ext.trans ?_ (by assumption))))).mono ?_; rintro e w1 ⟨rfl, hE⟩
      go_wp2_with fail
      refine (hln.out true hd _).mono ?_; rintro e w2 ⟨rfl, hE2⟩
      go_wp2_with fail
      refine (works_any _).mono ?_; rintro e w3 ⟨rfl, hE3⟩
      go_wp2_with fail
      go_ret
      exact ⟨rfl, (by repeat (with_reducible first | assumption | exact Ext.refl _ | refine Ext.drew ?_ | refine Ext.drewN ?_ _ | refine Ext.alloc ?_ _ | (refine Ext.setCell ?_ ?sz _; case sz => (first | (simp; done) | (simp; omega))) | refine Ext.trans ?_ (by assumption)))⟩
    · have hd1 := decide_eq_false g2
      by_cases g3 : 8 < d.length
      · have hd2 := decide_eq_true g3
        clear hT hI hJ hw hl hl8 hw8 hl1 hw1
        replace g2 := hid g2
        replace g3 := hid g3
        go_enter Try.func3, Try.ntmps3
        go_wp2_with fail
        refine (hgr.out _ (hT'.out.ext (by repeat (with_reducible first | assumption | exact Ext.refl _ | refine Ext.drew ?_ | refine Ext.drewN ?_ _ | refine Ext.alloc ?_ _ | (refine Ext.setCell ?_ ?sz _; case sz => (first | (simp; done) | (simp; omega))) | refine Ext.trans ?_ (by assumption))))).mono ?_; rintro e w1 ⟨rfl, hE⟩
        go_wp2_with fail
        refine (hln.out false hd1 _).mono ?_; rintro e w2 ⟨rfl, hE2⟩
        go_wp2_with fail
        refine (hlm.out true hd2 _).mono ?_; rintro e w3 ⟨rfl, hE3⟩
        go_wp2_with fail
        refine (works_any _).mono ?_; rintro e w4 ⟨rfl, hE4⟩
        go_wp2_with fail
        go_ret
        exact ⟨rfl, (by repeat (with_reducible first | assumption | exact Ext.refl _ | refine Ext.drew ?_ | refine Ext.drewN ?_ _ | refine Ext.alloc ?_ _ | (refine Ext.setCell ?_ ?sz _; case sz => (first | (simp; done) | (simp; omega))) | refine Ext.trans ?_ (by assumption)))⟩
      · have hd2 := decide_eq_false g3
        have hc1 : c.length ≤ 1000 := by omega
        have hdl1 : d.length ≤ 1000 := by omega
        have h1 := hid (fun W hW hK => sureP_any t q a cap c hc hc1 a2 c2 W hW hl1 hw1 hK)
        have h2 := hid (fun W hW hK => sureR_any t q a cap c hc hc1 a2 c2 W hW hl1 hw1 hK)
        have h3 := hid (fun W hW hK => boundP_any t q a cap d hd hdl1 a3 c3 W hW hl1 hw1 hK)
        have h4 := hid (fun W hW hK => boundR_any t q a cap d hd hdl1 a3 c3 W hW hl1 hw1 hK)
        have h5 := hid (fun W hW => checkTable_any t q a cap W hW hl1 hw1)
        have h6 := hid (fun W hW => checkTableR_any t q a cap W hW hl1 hw1)
        obtain ⟨sn, hsn⟩ : ∃ x, sureNE t c = x := ⟨_, rfl⟩
        obtain ⟨sd, hsd⟩ : ∃ x, sureDE t c = x := ⟨_, rfl⟩
        obtain ⟨se, hse⟩ : ∃ x, sureE t c = x := ⟨_, rfl⟩
        obtain ⟨bn, hbn⟩ : ∃ x, boundNE t d = x := ⟨_, rfl⟩
        obtain ⟨bd, hbd⟩ : ∃ x, boundDE t d = x := ⟨_, rfl⟩
        obtain ⟨be, hbe⟩ : ∃ x, boundE t d = x := ⟨_, rfl⟩
        obtain ⟨ck, hck⟩ : ∃ x, chkT t = x := ⟨_, rfl⟩
        rw [hsn, hsd, hse] at h1 h2
        rw [hbn, hbd, hbe] at h3 h4
        rw [hck] at h5 h6
        clear hsn hsd hse hbn hbd hbe hck hT hI hJ hw hl hl8 hw8 hl1 hw1 hc1 hdl1 g2 g3
        have eS : ∀ w, (Op.equalIn 10000 30 (.agg #[.int .i64 sn, .int .i64 sd]) (.agg #[.int .i64 sn, .int .i64 sd])).run Try.prog w = .ok true w := fun w => by rw [run_eqRatio]; simp
        have eB : ∀ w, (Op.equalIn 10000 30 (.agg #[.int .i64 bn, .int .i64 bd]) (.agg #[.int .i64 bn, .int .i64 bd])).run Try.prog w = .ok true w := fun w => by rw [run_eqRatio]; simp
        go_enter Try.func3, Try.ntmps3
        go_wp2_with fail
        refine (hgr.out _ (hT'.out.ext (by repeat (with_reducible first | assumption | exact Ext.refl _ | refine Ext.drew ?_ | refine Ext.drewN ?_ _ | refine Ext.alloc ?_ _ | (refine Ext.setCell ?_ ?sz _; case sz => (first | (simp; done) | (simp; omega))) | refine Ext.trans ?_ (by assumption))))).mono ?_; rintro e w1 ⟨rfl, hE⟩
        have m0 := hE.cell (p := ⟨w.heap.size, 0, none⟩) (v := .slice a t.length cap) (by simp [go_sem])
        have X := hid (show Ext w w1 from (by repeat (with_reducible first | assumption | exact Ext.refl _ | refine Ext.drew ?_ | refine Ext.drewN ?_ _ | refine Ext.alloc ?_ _ | (refine Ext.setCell ?_ ?sz _; case sz => (first | (simp; done) | (simp; omega))) | refine Ext.trans ?_ (by assumption))))
        clear hE
        go_wp2_with fail
        refine (hln.out false hd1 _).mono ?_; rintro e w2 ⟨rfl, hE⟩
        have m0 := hE.cell m0
        replace X := hid (X.out.trans hE)
        clear hE
        go_wp2_with fail
        refine (hlm.out false hd2 _).mono ?_; rintro e w3 ⟨rfl, hE⟩
        have m0 := hE.cell m0
        replace X := hid (X.out.trans hE)
        clear hE
        go_wp2_with fail
        refine (h1.out _ (hT'.out.ext X.out) (hI'.out.ext X.out)).mono ?_; rintro e w4 ⟨rfl, hE⟩
        have m0 := hE.cell m0
        have l0 := cell_lt m0
        dsimp only at l0
        replace X := hid (X.out.trans hE)
        clear hE
        generalize w.heap.size = Bt at *
        go_wp2_with fail
        refine name_c (fun v4 hw => ?_)
        have x : Ext w4 v4 := by rw [hw]; exact (by repeat (with_reducible first | assumption | exact Ext.refl _ | refine Ext.drew ?_ | refine Ext.drewN ?_ _ | refine Ext.alloc ?_ _ | (refine Ext.setCell ?_ ?sz _; case sz => (first | (simp; done) | (simp; omega))) | refine Ext.trans ?_ (by assumption)))
        have p0 : v4.cell? ⟨w4.heap.size, 0, none⟩ = some (.int .i64 sn) := by rw [hw]; simp [go_sem]
        have p1 : v4.cell? ⟨w4.heap.size, 1, none⟩ = some (.int .i64 sd) := by rw [hw]; simp [go_sem]
        have m0 := x.cell m0
        replace X := hid (X.out.trans x)
        clear hw x
        refine (h2.out _ (hT'.out.ext X.out) (hI'.out.ext X.out)).mono ?_; rintro e w5 ⟨rfl, hE⟩
        have m0 := hE.cell m0
        have l0 := cell_lt m0
        dsimp only at l0
        have p0 := hid (hE.cell p0)
        have p1 := hid (hE.cell p1)
        replace X := hid (X.out.trans hE)
        clear hE
        generalize w4.heap.size = Bp at *
        go_wp2_with fail
        refine name_c (fun v5 hw => ?_)
        have x : Ext w5 v5 := by rw [hw]; exact (by repeat (with_reducible first | assumption | exact Ext.refl _ | refine Ext.drew ?_ | refine Ext.drewN ?_ _ | refine Ext.alloc ?_ _ | (refine Ext.setCell ?_ ?sz _; case sz => (first | (simp; done) | (simp; omega))) | refine Ext.trans ?_ (by assumption)))
        have q0 : v5.cell? ⟨w5.heap.size, 0, none⟩ = some (.int .i64 sn) := by rw [hw]; simp [go_sem]
        have q1 : v5.cell? ⟨w5.heap.size, 1, none⟩ = some (.int .i64 sd) := by rw [hw]; simp [go_sem]
        have m0 := x.cell m0
        have p0 := hid (x.cell p0.out)
        have p1 := hid (x.cell p1.out)
        replace X := hid (X.out.trans x)
        clear hw x
        refine (h3.out _ (hT'.out.ext X.out) (hJ'.out.ext X.out)).mono ?_; rintro e w6 ⟨rfl, hE⟩
        have m0 := hE.cell m0
        have l0 := cell_lt m0
        dsimp only at l0
        have p0 := hid (hE.cell p0.out)
        have p1 := hid (hE.cell p1.out)
        have q0 := hid (hE.cell q0)
        have q1 := hid (hE.cell q1)
        replace X := hid (X.out.trans hE)
        clear hE
        generalize w5.heap.size = Bq at *
        go_wp2_with fail
        refine name_c (fun v6 hw => ?_)
        have x : Ext w6 v6 := by rw [hw]; exact (by repeat (with_reducible first | assumption | exact Ext.refl _ | refine Ext.drew ?_ | refine Ext.drewN ?_ _ | refine Ext.alloc ?_ _ | (refine Ext.setCell ?_ ?sz _; case sz => (first | (simp; done) | (simp; omega))) | refine Ext.trans ?_ (by assumption)))
        have r0 : v6.cell? ⟨w6.heap.size, 0, none⟩ = some (.int .i64 bn) := by rw [hw]; simp [go_sem]
        have r1 : v6.cell? ⟨w6.heap.size, 1, none⟩ = some (.int .i64 bd) := by rw [hw]; simp [go_sem]
        have m0 := x.cell m0
        have p0 := hid (x.cell p0.out)
        have p1 := hid (x.cell p1.out)
        have q0 := hid (x.cell q0.out)
        have q1 := hid (x.cell q1.out)
        replace X := hid (X.out.trans x)
        clear hw x
        refine (h4.out _ (hT'.out.ext X.out) (hJ'.out.ext X.out)).mono ?_; rintro e w7 ⟨rfl, hE⟩
        have m0 := hE.cell m0
        have l0 := cell_lt m0
        dsimp only at l0
        have p0 := hid (hE.cell p0.out)
        have p1 := hid (hE.cell p1.out)
        have q0 := hid (hE.cell q0.out)
        have q1 := hid (hE.cell q1.out)
        have r0 := hid (hE.cell r0)
        have r1 := hid (hE.cell r1)
        replace X := hid (X.out.trans hE)
        clear hE
        generalize w6.heap.size = Br at *
        go_wp2_with fail
        refine name_wp (fun v7 hw => ?_)
        have x : Ext w7 v7 := by rw [hw]; exact (by repeat (with_reducible first | assumption | exact Ext.refl _ | refine Ext.drew ?_ | refine Ext.drewN ?_ _ | refine Ext.alloc ?_ _ | (refine Ext.setCell ?_ ?sz _; case sz => (first | (simp; done) | (simp; omega))) | refine Ext.trans ?_ (by assumption)))
        have s0 : v7.cell? ⟨w7.heap.size, 0, none⟩ = some (.int .i64 bn) := by rw [hw]; simp [go_sem]
        have s1 : v7.cell? ⟨w7.heap.size, 1, none⟩ = some (.int .i64 bd) := by rw [hw]; simp [go_sem]
        have m0 := x.cell m0
        have p0 := x.cell p0.out
        have p1 := x.cell p1.out
        have q0 := x.cell q0.out
        have q1 := x.cell q1.out
        have r0 := x.cell r0.out
        have r1 := x.cell r1.out
        replace X := hid (X.out.trans x)
        clear hw x
        generalize w7.heap.size = Bs at *
        refine wp_region_held_drew (S := fun w' => Ext v7 w') (by kernel_rfl) (by repeat (with_reducible first | assumption | exact Ext.refl _ | refine Ext.drew ?_ | refine Ext.drewN ?_ _ | refine Ext.alloc ?_ _ | (refine Ext.setCell ?_ ?sz _; case sz => (first | (simp; done) | (simp; omega))) | refine Ext.trans ?_ (by assumption))) fun hHeld => ?_
        refine wpAnyH_take (i := 0) (oi := _) (v := ?_) rfl (by kernel_rfl) (by kernel_rfl) (by kernel_rfl) (fun _ _ _ h => h) (Or.inl ⟨by rfl, ?yl⟩) (by assumption) ?_
        case yl => (intro w hSw; (try dsimp only at hSw); have k1 := Ext.cell hSw m0; have k2 := Ext.cell hSw p0; have k3 := Ext.cell hSw p1; have k4 := Ext.cell hSw q0; have k5 := Ext.cell hSw q1; have k6 := Ext.cell hSw r0; have k7 := Ext.cell hSw r1; have k8 := Ext.cell hSw s0; have k9 := Ext.cell hSw s1; go_simp); with_reducible rfl
        try simp only [List.getElem_toArray, List.getElem_cons_succ, List.getElem_cons_zero, Act.put, List.setIfInBounds_toArray, List.set_cons_zero, List.set_cons_succ]
        refine wpAnyH_take (i := 2) (oi := _) (v := ?_) rfl (by kernel_rfl) (by kernel_rfl) (by kernel_rfl) (fun _ _ _ h => h) (Or.inl ⟨by rfl, ?yl⟩) (by assumption) ?_
        case yl => (intro w hSw; (try dsimp only at hSw); have k1 := Ext.cell hSw m0; have k2 := Ext.cell hSw p0; have k3 := Ext.cell hSw p1; have k4 := Ext.cell hSw q0; have k5 := Ext.cell hSw q1; have k6 := Ext.cell hSw r0; have k7 := Ext.cell hSw r1; have k8 := Ext.cell hSw s0; have k9 := Ext.cell hSw s1; go_simp); with_reducible rfl
        try simp only [List.getElem_toArray, List.getElem_cons_succ, List.getElem_cons_zero, Act.put, List.setIfInBounds_toArray, List.set_cons_zero, List.set_cons_succ]
        refine wpAnyH_ready (rs := [1]) (by kernel_rfl) (by simp) ?_
        refine AllReadyH.cons (o := _) rfl (fun K hK => ?_) AllReadyH.nil
        go_simp
        refine (h5.out _ (hT'.out.ext (X.out.trans (by repeat (with_reducible first | assumption | exact Ext.refl _ | refine Ext.drew ?_ | refine Ext.drewN ?_ _ | refine Ext.alloc ?_ _ | (refine Ext.setCell ?_ ?sz _; case sz => (first | (simp; done) | (simp; omega))) | refine Ext.trans ?_ (by assumption)))))).mono ?_; rintro e w8 ⟨rfl, hE⟩
        have E8 : Ext v7 w8 := (by repeat (with_reducible first | assumption | exact Ext.refl _ | refine Ext.drew ?_ | refine Ext.drewN ?_ _ | refine Ext.alloc ?_ _ | (refine Ext.setCell ?_ ?sz _; case sz => (first | (simp; done) | (simp; omega))) | refine Ext.trans ?_ (by assumption)))
        clear hE
        refine hK.out _ _ (by repeat (with_reducible first | assumption | exact Ext.refl _ | refine Ext.drew ?_ | refine Ext.drewN ?_ _ | refine Ext.alloc ?_ _ | (refine Ext.setCell ?_ ?sz _; case sz => (first | (simp; done) | (simp; omega))) | refine Ext.trans ?_ (by assumption))) (fun hHeld => ?_)
        clear hK K
        try simp only [List.getElem_toArray, List.getElem_cons_succ, List.getElem_cons_zero, Act.put, List.setIfInBounds_toArray, List.set_cons_zero, List.set_cons_succ]
        refine wpAnyH_ready (rs := [3]) (by kernel_rfl) (by simp) ?_
        refine AllReadyH.cons (o := _) rfl (fun K hK => ?_) AllReadyH.nil
        go_simp
        refine (h6.out _ (hT'.out.ext (X.out.trans (by repeat (with_reducible first | assumption | exact Ext.refl _ | refine Ext.drew ?_ | refine Ext.drewN ?_ _ | refine Ext.alloc ?_ _ | (refine Ext.setCell ?_ ?sz _; case sz => (first | (simp; done) | (simp; omega))) | refine Ext.trans ?_ (by assumption)))))).mono ?_; rintro e w9 ⟨rfl, hE⟩
        have E9 : Ext v7 w9 := E8.trans hE
        clear hE E8
        refine hK.out _ _ (by repeat (with_reducible first | assumption | exact Ext.refl _ | refine Ext.drew ?_ | refine Ext.drewN ?_ _ | refine Ext.alloc ?_ _ | (refine Ext.setCell ?_ ?sz _; case sz => (first | (simp; done) | (simp; omega))) | refine Ext.trans ?_ (by assumption))) (fun hHeld => ?_)
        clear hK K
        try simp only [List.getElem_toArray, List.getElem_cons_succ, List.getElem_cons_zero, Act.put, List.setIfInBounds_toArray, List.set_cons_zero, List.set_cons_succ]
        refine wpAnyH_take (i := 4) (oi := _) (v := ?_) rfl (by kernel_rfl) (by kernel_rfl) (by kernel_rfl) (fun _ _ _ h => h) (Or.inl ⟨by rfl, ?yl⟩) (by assumption) ?_
        case yl => (intro w hSw; (try dsimp only at hSw); have k1 := Ext.cell hSw m0; have k2 := Ext.cell hSw p0; have k3 := Ext.cell hSw p1; have k4 := Ext.cell hSw q0; have k5 := Ext.cell hSw q1; have k6 := Ext.cell hSw r0; have k7 := Ext.cell hSw r1; have k8 := Ext.cell hSw s0; have k9 := Ext.cell hSw s1; go_simp); with_reducible rfl
        try simp only [List.getElem_toArray, List.getElem_cons_succ, List.getElem_cons_zero, Act.put, List.setIfInBounds_toArray, List.set_cons_zero, List.set_cons_succ]
        refine wpAnyH_take (i := 5) (oi := _) (v := ?_) rfl (by kernel_rfl) (by kernel_rfl) (by kernel_rfl) (fun _ _ _ h => h) (Or.inl ⟨by rfl, ?yl⟩) (by assumption) ?_
        case yl => (intro w hSw; (try dsimp only at hSw); have k1 := Ext.cell hSw m0; have k2 := Ext.cell hSw p0; have k3 := Ext.cell hSw p1; have k4 := Ext.cell hSw q0; have k5 := Ext.cell hSw q1; have k6 := Ext.cell hSw r0; have k7 := Ext.cell hSw r1; have k8 := Ext.cell hSw s0; have k9 := Ext.cell hSw s1; go_simp); with_reducible rfl
        try simp only [List.getElem_toArray, List.getElem_cons_succ, List.getElem_cons_zero, Act.put, List.setIfInBounds_toArray, List.set_cons_zero, List.set_cons_succ]
        refine wpAnyH_take (i := 6) (oi := _) (v := ?_) rfl (by kernel_rfl) (by kernel_rfl) (by kernel_rfl) (fun _ _ _ h => h) (Or.inl ⟨by rfl, ?yl⟩) (by assumption) ?_
        case yl => (intro w hSw; (try dsimp only at hSw); have k1 := Ext.cell hSw m0; have k2 := Ext.cell hSw p0; have k3 := Ext.cell hSw p1; have k4 := Ext.cell hSw q0; have k5 := Ext.cell hSw q1; have k6 := Ext.cell hSw r0; have k7 := Ext.cell hSw r1; have k8 := Ext.cell hSw s0; have k9 := Ext.cell hSw s1; go_simp); with_reducible rfl
        try simp only [List.getElem_toArray, List.getElem_cons_succ, List.getElem_cons_zero, Act.put, List.setIfInBounds_toArray, List.set_cons_zero, List.set_cons_succ]
        refine wpAnyH_take (i := 7) (oi := _) (v := ?_) rfl (by kernel_rfl) (by kernel_rfl) (by kernel_rfl) (fun _ _ _ h => h) (Or.inl ⟨by rfl, ?yl⟩) (by assumption) ?_
        case yl => (intro w hSw; (try dsimp only at hSw); have k1 := Ext.cell hSw m0; have k2 := Ext.cell hSw p0; have k3 := Ext.cell hSw p1; have k4 := Ext.cell hSw q0; have k5 := Ext.cell hSw q1; have k6 := Ext.cell hSw r0; have k7 := Ext.cell hSw r1; have k8 := Ext.cell hSw s0; have k9 := Ext.cell hSw s1; go_simp); with_reducible rfl
        try simp only [List.getElem_toArray, List.getElem_cons_succ, List.getElem_cons_zero, Act.put, List.setIfInBounds_toArray, List.set_cons_zero, List.set_cons_succ]
        refine wpAnyH_take (i := 8) (oi := _) (v := ?_) rfl (by kernel_rfl) (by kernel_rfl) (by kernel_rfl) (fun _ _ _ h => h) (Or.inl ⟨by rfl, ?yl⟩) (by assumption) ?_
        case yl => (intro w hSw; (try dsimp only at hSw); have k1 := Ext.cell hSw m0; have k2 := Ext.cell hSw p0; have k3 := Ext.cell hSw p1; have k4 := Ext.cell hSw q0; have k5 := Ext.cell hSw q1; have k6 := Ext.cell hSw r0; have k7 := Ext.cell hSw r1; have k8 := Ext.cell hSw s0; have k9 := Ext.cell hSw s1; go_simp); with_reducible rfl
        try simp only [List.getElem_toArray, List.getElem_cons_succ, List.getElem_cons_zero, Act.put, List.setIfInBounds_toArray, List.set_cons_zero, List.set_cons_succ]
        refine wpAnyH_take (i := 9) (oi := _) (v := ?_) rfl (by kernel_rfl) (by kernel_rfl) (by kernel_rfl) (fun _ _ _ h => h) (Or.inl ⟨by rfl, ?yl⟩) (by assumption) ?_
        case yl => (intro w hSw; (try dsimp only at hSw); have k1 := Ext.cell hSw m0; have k2 := Ext.cell hSw p0; have k3 := Ext.cell hSw p1; have k4 := Ext.cell hSw q0; have k5 := Ext.cell hSw q1; have k6 := Ext.cell hSw r0; have k7 := Ext.cell hSw r1; have k8 := Ext.cell hSw s0; have k9 := Ext.cell hSw s1; go_simp); with_reducible rfl
        try simp only [List.getElem_toArray, List.getElem_cons_succ, List.getElem_cons_zero, Act.put, List.setIfInBounds_toArray, List.set_cons_zero, List.set_cons_succ]
        refine wpAnyH_take (i := 10) (oi := _) (v := ?_) rfl (by kernel_rfl) (by kernel_rfl) (by kernel_rfl) (fun _ _ _ h => h) (Or.inl ⟨by rfl, ?yl⟩) (by assumption) ?_
        case yl => (intro w hSw; (try dsimp only at hSw); have k1 := Ext.cell hSw m0; have k2 := Ext.cell hSw p0; have k3 := Ext.cell hSw p1; have k4 := Ext.cell hSw q0; have k5 := Ext.cell hSw q1; have k6 := Ext.cell hSw r0; have k7 := Ext.cell hSw r1; have k8 := Ext.cell hSw s0; have k9 := Ext.cell hSw s1; go_simp); with_reducible rfl
        try simp only [List.getElem_toArray, List.getElem_cons_succ, List.getElem_cons_zero, Act.put, List.setIfInBounds_toArray, List.set_cons_zero, List.set_cons_succ]
        refine wpAnyH_take (i := 11) (oi := _) (v := ?_) rfl (by kernel_rfl) (by kernel_rfl) (by kernel_rfl) (fun _ _ _ h => h) (Or.inl ⟨by rfl, ?yl⟩) (by assumption) ?_
        case yl => (intro w hSw; (try dsimp only at hSw); have k1 := Ext.cell hSw m0; have k2 := Ext.cell hSw p0; have k3 := Ext.cell hSw p1; have k4 := Ext.cell hSw q0; have k5 := Ext.cell hSw q1; have k6 := Ext.cell hSw r0; have k7 := Ext.cell hSw r1; have k8 := Ext.cell hSw s0; have k9 := Ext.cell hSw s1; go_simp); with_reducible rfl
        try simp only [List.getElem_toArray, List.getElem_cons_succ, List.getElem_cons_zero, Act.put, List.setIfInBounds_toArray, List.set_cons_zero, List.set_cons_succ]
        refine wpAnyH_take (i := 12) (oi := _) (v := ?_) rfl (by kernel_rfl) (by kernel_rfl) (by kernel_rfl) (fun _ _ _ h => h) (Or.inl ⟨by rfl, ?yl⟩) (by assumption) ?_
        case yl => (intro w hSw; (try dsimp only at hSw); have k1 := Ext.cell hSw m0; have k2 := Ext.cell hSw p0; have k3 := Ext.cell hSw p1; have k4 := Ext.cell hSw q0; have k5 := Ext.cell hSw q1; have k6 := Ext.cell hSw r0; have k7 := Ext.cell hSw r1; have k8 := Ext.cell hSw s0; have k9 := Ext.cell hSw s1; go_simp); with_reducible rfl
        try simp only [List.getElem_toArray, List.getElem_cons_succ, List.getElem_cons_zero, Act.put, List.setIfInBounds_toArray, List.set_cons_zero, List.set_cons_succ]
        refine wpAnyH_take (i := 13) (oi := _) (v := ?_) rfl (by kernel_rfl) (by kernel_rfl) (by kernel_rfl) (fun _ _ _ h => h) (Or.inl ⟨by rfl, ?yl⟩) (by assumption) ?_
        case yl => (intro w hSw; (try dsimp only at hSw); have k1 := Ext.cell hSw m0; have k2 := Ext.cell hSw p0; have k3 := Ext.cell hSw p1; have k4 := Ext.cell hSw q0; have k5 := Ext.cell hSw q1; have k6 := Ext.cell hSw r0; have k7 := Ext.cell hSw r1; have k8 := Ext.cell hSw s0; have k9 := Ext.cell hSw s1; go_simp); with_reducible rfl
        try simp only [List.getElem_toArray, List.getElem_cons_succ, List.getElem_cons_zero, Act.put, List.setIfInBounds_toArray, List.set_cons_zero, List.set_cons_succ]
        refine wpAnyH_take (i := 14) (oi := _) (v := ?_) rfl (by kernel_rfl) (by kernel_rfl) (by kernel_rfl) (fun _ _ _ h => h) (Or.inl ⟨by rfl, ?yl⟩) (by assumption) ?_
        case yl => (intro w hSw; (try dsimp only at hSw); have k1 := Ext.cell hSw m0; have k2 := Ext.cell hSw p0; have k3 := Ext.cell hSw p1; have k4 := Ext.cell hSw q0; have k5 := Ext.cell hSw q1; have k6 := Ext.cell hSw r0; have k7 := Ext.cell hSw r1; have k8 := Ext.cell hSw s0; have k9 := Ext.cell hSw s1; go_simp); with_reducible rfl
        try simp only [List.getElem_toArray, List.getElem_cons_succ, List.getElem_cons_zero, Act.put, List.setIfInBounds_toArray, List.set_cons_zero, List.set_cons_succ]
        refine wpAnyH_take (i := 15) (oi := _) (v := ?_) rfl (by kernel_rfl) (by kernel_rfl) (by kernel_rfl) (fun _ _ _ h => h) (Or.inl ⟨by rfl, ?yl⟩) (by assumption) ?_
        case yl => (intro w hSw; (try dsimp only at hSw); have k1 := Ext.cell hSw m0; have k2 := Ext.cell hSw p0; have k3 := Ext.cell hSw p1; have k4 := Ext.cell hSw q0; have k5 := Ext.cell hSw q1; have k6 := Ext.cell hSw r0; have k7 := Ext.cell hSw r1; have k8 := Ext.cell hSw s0; have k9 := Ext.cell hSw s1; go_simp); with_reducible rfl
        try simp only [List.getElem_toArray, List.getElem_cons_succ, List.getElem_cons_zero, Act.put, List.setIfInBounds_toArray, List.set_cons_zero, List.set_cons_succ]
        refine wpAnyH_take (i := 16) (oi := _) (v := ?_) rfl (by kernel_rfl) (by kernel_rfl) (by kernel_rfl) (fun _ _ _ h => h) (Or.inl ⟨by rfl, ?yl⟩) (by assumption) ?_
        case yl => (intro w hSw; (try dsimp only at hSw); have k1 := Ext.cell hSw m0; have k2 := Ext.cell hSw p0; have k3 := Ext.cell hSw p1; have k4 := Ext.cell hSw q0; have k5 := Ext.cell hSw q1; have k6 := Ext.cell hSw r0; have k7 := Ext.cell hSw r1; have k8 := Ext.cell hSw s0; have k9 := Ext.cell hSw s1; go_simp); with_reducible rfl
        try simp only [List.getElem_toArray, List.getElem_cons_succ, List.getElem_cons_zero, Act.put, List.setIfInBounds_toArray, List.set_cons_zero, List.set_cons_succ]
        refine wpAnyH_take (i := 17) (oi := _) (v := ?_) rfl (by kernel_rfl) (by kernel_rfl) (by kernel_rfl) (fun _ _ _ h => h) (Or.inl ⟨by rfl, ?yl⟩) (by assumption) ?_
        case yl => (intro w hSw; (try dsimp only at hSw); have k1 := Ext.cell hSw m0; have k2 := Ext.cell hSw p0; have k3 := Ext.cell hSw p1; have k4 := Ext.cell hSw q0; have k5 := Ext.cell hSw q1; have k6 := Ext.cell hSw r0; have k7 := Ext.cell hSw r1; have k8 := Ext.cell hSw s0; have k9 := Ext.cell hSw s1; go_simp); with_reducible rfl
        try simp only [List.getElem_toArray, List.getElem_cons_succ, List.getElem_cons_zero, Act.put, List.setIfInBounds_toArray, List.set_cons_zero, List.set_cons_succ]
        refine wpAnyH_take (i := 18) (oi := _) (v := ?_) rfl (by kernel_rfl) (by kernel_rfl) (by kernel_rfl) (fun _ _ _ h => h) (Or.inl ⟨by rfl, ?yl⟩) (by assumption) ?_
        case yl => (intro w hSw; (try dsimp only at hSw); have k1 := Ext.cell hSw m0; have k2 := Ext.cell hSw p0; have k3 := Ext.cell hSw p1; have k4 := Ext.cell hSw q0; have k5 := Ext.cell hSw q1; have k6 := Ext.cell hSw r0; have k7 := Ext.cell hSw r1; have k8 := Ext.cell hSw s0; have k9 := Ext.cell hSw s1; go_simp); with_reducible rfl
        try simp only [List.getElem_toArray, List.getElem_cons_succ, List.getElem_cons_zero, Act.put, List.setIfInBounds_toArray, List.set_cons_zero, List.set_cons_succ]
        refine wpAnyH_take (i := 19) (oi := _) (v := ?_) rfl (by kernel_rfl) (by kernel_rfl) (by kernel_rfl) (fun _ _ _ h => h) (Or.inl ⟨by rfl, ?yl⟩) (by assumption) ?_
        case yl => (intro w hSw; (try dsimp only at hSw); have k1 := Ext.cell hSw m0; have k2 := Ext.cell hSw p0; have k3 := Ext.cell hSw p1; have k4 := Ext.cell hSw q0; have k5 := Ext.cell hSw q1; have k6 := Ext.cell hSw r0; have k7 := Ext.cell hSw r1; have k8 := Ext.cell hSw s0; have k9 := Ext.cell hSw s1; go_simp); with_reducible rfl
        try simp only [List.getElem_toArray, List.getElem_cons_succ, List.getElem_cons_zero, Act.put, List.setIfInBounds_toArray, List.set_cons_zero, List.set_cons_succ]
        refine wpAnyH_take (i := 20) (oi := _) (v := ?_) rfl (by kernel_rfl) (by kernel_rfl) (by kernel_rfl) (fun _ _ _ h => h) (Or.inl ⟨by rfl, ?yl⟩) (by assumption) ?_
        case yl => (intro w hSw; (try dsimp only at hSw); have k1 := Ext.cell hSw m0; have k2 := Ext.cell hSw p0; have k3 := Ext.cell hSw p1; have k4 := Ext.cell hSw q0; have k5 := Ext.cell hSw q1; have k6 := Ext.cell hSw r0; have k7 := Ext.cell hSw r1; have k8 := Ext.cell hSw s0; have k9 := Ext.cell hSw s1; go_simp); with_reducible rfl
        try simp only [List.getElem_toArray, List.getElem_cons_succ, List.getElem_cons_zero, Act.put, List.setIfInBounds_toArray, List.set_cons_zero, List.set_cons_succ]
        refine wpAnyH_take (i := 21) (oi := _) (v := ?_) rfl (by kernel_rfl) (by kernel_rfl) (by kernel_rfl) (fun _ _ _ h => h) (Or.inl ⟨by rfl, ?yl⟩) (by assumption) ?_
        case yl => (intro w hSw; (try dsimp only at hSw); have k1 := Ext.cell hSw m0; have k2 := Ext.cell hSw p0; have k3 := Ext.cell hSw p1; have k4 := Ext.cell hSw q0; have k5 := Ext.cell hSw q1; have k6 := Ext.cell hSw r0; have k7 := Ext.cell hSw r1; have k8 := Ext.cell hSw s0; have k9 := Ext.cell hSw s1; go_simp); with_reducible rfl
        try simp only [List.getElem_toArray, List.getElem_cons_succ, List.getElem_cons_zero, Act.put, List.setIfInBounds_toArray, List.set_cons_zero, List.set_cons_succ]
        refine wpAnyH_take (i := 22) (oi := _) (v := ?_) rfl (by kernel_rfl) (by kernel_rfl) (by kernel_rfl) (fun _ _ _ h => h) (Or.inl ⟨by rfl, ?yl⟩) (by assumption) ?_
        case yl => (intro w hSw; (try dsimp only at hSw); have k1 := Ext.cell hSw m0; have k2 := Ext.cell hSw p0; have k3 := Ext.cell hSw p1; have k4 := Ext.cell hSw q0; have k5 := Ext.cell hSw q1; have k6 := Ext.cell hSw r0; have k7 := Ext.cell hSw r1; have k8 := Ext.cell hSw s0; have k9 := Ext.cell hSw s1; go_simp); with_reducible rfl
        try simp only [List.getElem_toArray, List.getElem_cons_succ, List.getElem_cons_zero, Act.put, List.setIfInBounds_toArray, List.set_cons_zero, List.set_cons_succ]
        refine wpAnyH_take (i := 23) (oi := _) (v := ?_) rfl (by kernel_rfl) (by kernel_rfl) (by kernel_rfl) (fun _ _ _ h => h) (Or.inl ⟨by rfl, ?yl⟩) (by assumption) ?_
        case yl => (intro w hSw; (try dsimp only at hSw); have k1 := Ext.cell hSw m0; have k2 := Ext.cell hSw p0; have k3 := Ext.cell hSw p1; have k4 := Ext.cell hSw q0; have k5 := Ext.cell hSw q1; have k6 := Ext.cell hSw r0; have k7 := Ext.cell hSw r1; have k8 := Ext.cell hSw s0; have k9 := Ext.cell hSw s1; go_simp); with_reducible rfl
        try simp only [List.getElem_toArray, List.getElem_cons_succ, List.getElem_cons_zero, Act.put, List.setIfInBounds_toArray, List.set_cons_zero, List.set_cons_succ]
        refine wpAnyH_take (i := 24) (oi := _) (v := ?_) rfl (by kernel_rfl) (by kernel_rfl) (by kernel_rfl) (fun _ _ _ h => h) (Or.inl ⟨by rfl, ?yl⟩) (by assumption) ?_
        case yl => (intro w hSw; (try dsimp only at hSw); have k1 := Ext.cell hSw m0; have k2 := Ext.cell hSw p0; have k3 := Ext.cell hSw p1; have k4 := Ext.cell hSw q0; have k5 := Ext.cell hSw q1; have k6 := Ext.cell hSw r0; have k7 := Ext.cell hSw r1; have k8 := Ext.cell hSw s0; have k9 := Ext.cell hSw s1; go_simp); with_reducible rfl
        try simp only [List.getElem_toArray, List.getElem_cons_succ, List.getElem_cons_zero, Act.put, List.setIfInBounds_toArray, List.set_cons_zero, List.set_cons_succ]
        refine wpAnyH_take (i := 25) (oi := _) (v := ?_) rfl (by kernel_rfl) (by kernel_rfl) (by kernel_rfl) (fun _ _ _ h => h) (Or.inl ⟨by rfl, ?yl⟩) (by assumption) ?_
        case yl => (intro w hSw; (try dsimp only at hSw); have k1 := Ext.cell hSw m0; have k2 := Ext.cell hSw p0; have k3 := Ext.cell hSw p1; have k4 := Ext.cell hSw q0; have k5 := Ext.cell hSw q1; have k6 := Ext.cell hSw r0; have k7 := Ext.cell hSw r1; have k8 := Ext.cell hSw s0; have k9 := Ext.cell hSw s1; go_simp); with_reducible rfl
        try simp only [List.getElem_toArray, List.getElem_cons_succ, List.getElem_cons_zero, Act.put, List.setIfInBounds_toArray, List.set_cons_zero, List.set_cons_succ]
        refine wpAnyH_ready (rs := [26]) (by kernel_rfl) (by simp) ?_
        refine AllReadyH.cons (o := _) rfl (fun K hK => ?_) AllReadyH.nil
        go_simp
        refine (works_any _).mono ?_; rintro e w10 ⟨rfl, hE⟩
        have E10 : Ext v7 w10 := E9.trans hE
        clear hE E9
        refine hK.out _ _ (by repeat (with_reducible first | assumption | exact Ext.refl _ | refine Ext.drew ?_ | refine Ext.drewN ?_ _ | refine Ext.alloc ?_ _ | (refine Ext.setCell ?_ ?sz _; case sz => (first | (simp; done) | (simp; omega))) | refine Ext.trans ?_ (by assumption))) (fun hHeld => ?_)
        clear hK K
        try simp only [List.getElem_toArray, List.getElem_cons_succ, List.getElem_cons_zero, Act.put, List.setIfInBounds_toArray, List.set_cons_zero, List.set_cons_succ]
        refine wpAnyH_take (i := 27) (oi := _) (v := ?_) rfl (by kernel_rfl) (by kernel_rfl) (by kernel_rfl) (fun _ _ _ h => h) (Or.inl ⟨by rfl, ?yl⟩) (by assumption) ?_
        case yl => (intro w hSw; (try dsimp only at hSw); have k1 := Ext.cell hSw m0; have k2 := Ext.cell hSw p0; have k3 := Ext.cell hSw p1; have k4 := Ext.cell hSw q0; have k5 := Ext.cell hSw q1; have k6 := Ext.cell hSw r0; have k7 := Ext.cell hSw r1; have k8 := Ext.cell hSw s0; have k9 := Ext.cell hSw s1; go_simp); with_reducible rfl
        try simp only [List.getElem_toArray, List.getElem_cons_succ, List.getElem_cons_zero, Act.put, List.setIfInBounds_toArray, List.set_cons_zero, List.set_cons_succ]
        refine wpAnyH_take (i := 28) (oi := _) (v := ?_) rfl (by kernel_rfl) (by kernel_rfl) (by kernel_rfl) (fun _ _ _ h => h) (Or.inl ⟨by rfl, ?yl⟩) (by assumption) ?_
        case yl => (intro w hSw; (try dsimp only at hSw); have k1 := Ext.cell hSw m0; have k2 := Ext.cell hSw p0; have k3 := Ext.cell hSw p1; have k4 := Ext.cell hSw q0; have k5 := Ext.cell hSw q1; have k6 := Ext.cell hSw r0; have k7 := Ext.cell hSw r1; have k8 := Ext.cell hSw s0; have k9 := Ext.cell hSw s1; go_simp); with_reducible rfl
        try simp only [List.getElem_toArray, List.getElem_cons_succ, List.getElem_cons_zero, Act.put, List.setIfInBounds_toArray, List.set_cons_zero, List.set_cons_succ]
        refine wpAnyH_done (by kernel_rfl) ?_ _
        try simp only [List.getElem_toArray, List.getElem_cons_succ, List.getElem_cons_zero, Act.put, List.setIfInBounds_toArray, List.set_cons_zero, List.set_cons_succ]
        go_wp2_with fail
        go_ret
        exact ⟨rfl, X.out.trans E10⟩

end Go.Proofs.Ytommhgcgaclflaa
